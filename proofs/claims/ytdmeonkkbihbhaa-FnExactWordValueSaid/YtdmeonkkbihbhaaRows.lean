/-
  NARROWER THAN 'FOR EVERY INPUT', by the rows' own cells (each row's printed sentence says how): FnExactWordOK: loops · FnExactExOK: loops · FnExactWordValue: loops.
  DERIVED. THE GIVEN ROWS OF THIS SEAT. 9 by the template 'for every input the law returns true; each argument reads behind the call as it read before'; 0 by the template 'total and deterministic' (their statements: YtdmeonkkbihbhaaTotals.lean).
  GIVEN WITH THE SEED: the statements are not yours to turn. If you find one false, say at which input.
  Laid BY PROGRAM, IN A SANDBOX (cutbox-rows.mjs): the forced cells as the released guide's own fill.sh prints them over the translation 0cd587bfa72a7404… (all of the seat's roots in one cut). By AI agents, Wed Nov 11 2026. No macro, syntax, notation, axiom, sorry.
-/
import Derived.Test.YtdmeonkkbihbhaaChecked
import GoSem.Claim
import GoSem.ClaimJoined
import GoSem.ClaimMapViews
import Derived.JoinedTies
import Derived.KernelRfl
namespace Go.Proofs.Ytdmeonkkbihbhaa
/- THE CELL 'sum', in the pinned program and in every row, IS THE sha256 OF THE DUMP (.gsa) THAT YtdmeonkkbihbhaaProg.lean LOADS. Nothing in Lean hashes anything: it is a label: what it is worth is what the hold of that sum in a sandbox is worth. -/
noncomputable def Try.pinned : Pinned := { name := "ytdmeonkkbihbhaa", sum := "0cd587bfa72a7404793def8a5c7279ffc0496f1f25eed9eb109fb73dfa20e96b", checked := Try.checked }
namespace Rows
def none {H : Type} : Left H := { results := [], args := [] }

/-- 'laws.FnExactAigOK': WHATEVER THE INPUT: true; the input reads as it did. -/
def fnExactAigOKSpec : ChangeSpec := { name := "fnExactAigOK", fn := fun _ => fun
  | [d] => { results := [.lit (.bool true)], args := [d] }
  | _ => none }
def fnExactAigOKRow : OpenClaim := { program := "ytdmeonkkbihbhaa", sum := "0cd587bfa72a7404793def8a5c7279ffc0496f1f25eed9eb109fb73dfa20e96b", func := "loop.example/g00159/laws.FnExactAigOK", spec := "fnExactAigOK", apart := false }
def FnExactAigOKSaid : Prop := fnExactAigOKRow.holds Try.pinned (OpenSpec.ofChange fnExactAigOKSpec)

/-- ITS FALSE NEIGHBOUR: 'it returns false'. Refute it at one input. -/
def fnExactAigOKWrong : ChangeSpec := { name := "fnExactAigOK", fn := fun _ => fun
  | [d] => { results := [.lit (.bool false)], args := [d] }
  | _ => none }
def FnExactAigOKWrongFalsely : Prop := fnExactAigOKRow.holds Try.pinned (OpenSpec.ofChange fnExactAigOKWrong)

/-- 'laws.FnExactWordOK': WHATEVER THE INPUT: true; the input reads as it did. -/
def fnExactWordOKSpec : ChangeSpec := { name := "fnExactWordOK", fn := fun _ => fun
  | [d1, d2] => { results := [.lit (.bool true)], args := [d1, d2] }
  | _ => none }
def fnExactWordOKRow : OpenClaim := { program := "ytdmeonkkbihbhaa", sum := "0cd587bfa72a7404793def8a5c7279ffc0496f1f25eed9eb109fb73dfa20e96b", func := "loop.example/g00159/laws.FnExactWordOK", spec := "fnExactWordOK", unfollowed := true, recurses := true, loops := true, apart := false }
def FnExactWordOKSaid : Prop := fnExactWordOKRow.holds Try.pinned (OpenSpec.ofChange fnExactWordOKSpec)

/-- ITS FALSE NEIGHBOUR: 'it returns false'. Refute it at one input. -/
def fnExactWordOKWrong : ChangeSpec := { name := "fnExactWordOK", fn := fun _ => fun
  | [d1, d2] => { results := [.lit (.bool false)], args := [d1, d2] }
  | _ => none }
def FnExactWordOKWrongFalsely : Prop := fnExactWordOKRow.holds Try.pinned (OpenSpec.ofChange fnExactWordOKWrong)

/-- 'laws.FnExactCnfOK': WHATEVER THE INPUT: true; the input reads as it did. -/
def fnExactCnfOKSpec : ChangeSpec := { name := "fnExactCnfOK", fn := fun _ => fun
  | [d] => { results := [.lit (.bool true)], args := [d] }
  | _ => none }
def fnExactCnfOKRow : OpenClaim := { program := "ytdmeonkkbihbhaa", sum := "0cd587bfa72a7404793def8a5c7279ffc0496f1f25eed9eb109fb73dfa20e96b", func := "loop.example/g00159/laws.FnExactCnfOK", spec := "fnExactCnfOK", unfollowed := true, recurses := true, apart := false }
def FnExactCnfOKSaid : Prop := fnExactCnfOKRow.holds Try.pinned (OpenSpec.ofChange fnExactCnfOKSpec)

/-- ITS FALSE NEIGHBOUR: 'it returns false'. Refute it at one input. -/
def fnExactCnfOKWrong : ChangeSpec := { name := "fnExactCnfOK", fn := fun _ => fun
  | [d] => { results := [.lit (.bool false)], args := [d] }
  | _ => none }
def FnExactCnfOKWrongFalsely : Prop := fnExactCnfOKRow.holds Try.pinned (OpenSpec.ofChange fnExactCnfOKWrong)

/-- 'laws.FnExactBestRoute': WHATEVER THE INPUT: true; the input reads as it did. -/
def fnExactBestRouteSpec : ChangeSpec := { name := "fnExactBestRoute", fn := fun _ => fun
  | [d] => { results := [.lit (.bool true)], args := [d] }
  | _ => none }
def fnExactBestRouteRow : OpenClaim := { program := "ytdmeonkkbihbhaa", sum := "0cd587bfa72a7404793def8a5c7279ffc0496f1f25eed9eb109fb73dfa20e96b", func := "loop.example/g00159/laws.FnExactBestRoute", spec := "fnExactBestRoute", apart := false }
def FnExactBestRouteSaid : Prop := fnExactBestRouteRow.holds Try.pinned (OpenSpec.ofChange fnExactBestRouteSpec)

/-- ITS FALSE NEIGHBOUR: 'it returns false'. Refute it at one input. -/
def fnExactBestRouteWrong : ChangeSpec := { name := "fnExactBestRoute", fn := fun _ => fun
  | [d] => { results := [.lit (.bool false)], args := [d] }
  | _ => none }
def FnExactBestRouteWrongFalsely : Prop := fnExactBestRouteRow.holds Try.pinned (OpenSpec.ofChange fnExactBestRouteWrong)

/-- 'laws.FnExactExOK': WHATEVER THE INPUT: true; the input reads as it did. -/
def fnExactExOKSpec : ChangeSpec := { name := "fnExactExOK", fn := fun _ => fun
  | [d] => { results := [.lit (.bool true)], args := [d] }
  | _ => none }
def fnExactExOKRow : OpenClaim := { program := "ytdmeonkkbihbhaa", sum := "0cd587bfa72a7404793def8a5c7279ffc0496f1f25eed9eb109fb73dfa20e96b", func := "loop.example/g00159/laws.FnExactExOK", spec := "fnExactExOK", unfollowed := true, recurses := true, loops := true, apart := false }
def FnExactExOKSaid : Prop := fnExactExOKRow.holds Try.pinned (OpenSpec.ofChange fnExactExOKSpec)

/-- ITS FALSE NEIGHBOUR: 'it returns false'. Refute it at one input. -/
def fnExactExOKWrong : ChangeSpec := { name := "fnExactExOK", fn := fun _ => fun
  | [d] => { results := [.lit (.bool false)], args := [d] }
  | _ => none }
def FnExactExOKWrongFalsely : Prop := fnExactExOKRow.holds Try.pinned (OpenSpec.ofChange fnExactExOKWrong)

/-- 'laws.FnCompares': WHATEVER THE INPUT: true; the input reads as it did. -/
def fnComparesSpec : ChangeSpec := { name := "fnCompares", fn := fun _ => fun
  | [d1, d2] => { results := [.lit (.bool true)], args := [d1, d2] }
  | _ => none }
def fnComparesRow : OpenClaim := { program := "ytdmeonkkbihbhaa", sum := "0cd587bfa72a7404793def8a5c7279ffc0496f1f25eed9eb109fb73dfa20e96b", func := "loop.example/g00159/laws.FnCompares", spec := "fnCompares", unfollowed := true, recurses := true, apart := false }
def FnComparesSaid : Prop := fnComparesRow.holds Try.pinned (OpenSpec.ofChange fnComparesSpec)

/-- ITS FALSE NEIGHBOUR: 'it returns false'. Refute it at one input. -/
def fnComparesWrong : ChangeSpec := { name := "fnCompares", fn := fun _ => fun
  | [d1, d2] => { results := [.lit (.bool false)], args := [d1, d2] }
  | _ => none }
def FnComparesWrongFalsely : Prop := fnComparesRow.holds Try.pinned (OpenSpec.ofChange fnComparesWrong)

/-- 'laws.FnExactCountModels': WHATEVER THE INPUT: true; the input reads as it did. -/
def fnExactCountModelsSpec : ChangeSpec := { name := "fnExactCountModels", fn := fun _ => fun
  | [d] => { results := [.lit (.bool true)], args := [d] }
  | _ => none }
def fnExactCountModelsRow : OpenClaim := { program := "ytdmeonkkbihbhaa", sum := "0cd587bfa72a7404793def8a5c7279ffc0496f1f25eed9eb109fb73dfa20e96b", func := "loop.example/g00159/laws.FnExactCountModels", spec := "fnExactCountModels", unfollowed := true, recurses := true, apart := false }
def FnExactCountModelsSaid : Prop := fnExactCountModelsRow.holds Try.pinned (OpenSpec.ofChange fnExactCountModelsSpec)

/-- ITS FALSE NEIGHBOUR: 'it returns false'. Refute it at one input. -/
def fnExactCountModelsWrong : ChangeSpec := { name := "fnExactCountModels", fn := fun _ => fun
  | [d] => { results := [.lit (.bool false)], args := [d] }
  | _ => none }
def FnExactCountModelsWrongFalsely : Prop := fnExactCountModelsRow.holds Try.pinned (OpenSpec.ofChange fnExactCountModelsWrong)

/-- 'laws.FnExactEvalCnf': WHATEVER THE INPUT: true; the input reads as it did. -/
def fnExactEvalCnfSpec : ChangeSpec := { name := "fnExactEvalCnf", fn := fun _ => fun
  | [d1, d2] => { results := [.lit (.bool true)], args := [d1, d2] }
  | _ => none }
def fnExactEvalCnfRow : OpenClaim := { program := "ytdmeonkkbihbhaa", sum := "0cd587bfa72a7404793def8a5c7279ffc0496f1f25eed9eb109fb73dfa20e96b", func := "loop.example/g00159/laws.FnExactEvalCnf", spec := "fnExactEvalCnf", unfollowed := true, recurses := true, apart := false }
def FnExactEvalCnfSaid : Prop := fnExactEvalCnfRow.holds Try.pinned (OpenSpec.ofChange fnExactEvalCnfSpec)

/-- ITS FALSE NEIGHBOUR: 'it returns false'. Refute it at one input. -/
def fnExactEvalCnfWrong : ChangeSpec := { name := "fnExactEvalCnf", fn := fun _ => fun
  | [d1, d2] => { results := [.lit (.bool false)], args := [d1, d2] }
  | _ => none }
def FnExactEvalCnfWrongFalsely : Prop := fnExactEvalCnfRow.holds Try.pinned (OpenSpec.ofChange fnExactEvalCnfWrong)

/-- 'laws.FnExactWordValue': WHATEVER THE INPUT: true; the input reads as it did. -/
def fnExactWordValueSpec : ChangeSpec := { name := "fnExactWordValue", fn := fun _ => fun
  | [d1, d2, d3] => { results := [.lit (.bool true)], args := [d1, d2, d3] }
  | _ => none }
def fnExactWordValueRow : OpenClaim := { program := "ytdmeonkkbihbhaa", sum := "0cd587bfa72a7404793def8a5c7279ffc0496f1f25eed9eb109fb73dfa20e96b", func := "loop.example/g00159/laws.FnExactWordValue", spec := "fnExactWordValue", unfollowed := true, recurses := true, loops := true, apart := false }
def FnExactWordValueSaid : Prop := fnExactWordValueRow.holds Try.pinned (OpenSpec.ofChange fnExactWordValueSpec)

/-- ITS FALSE NEIGHBOUR: 'it returns false'. Refute it at one input. -/
def fnExactWordValueWrong : ChangeSpec := { name := "fnExactWordValue", fn := fun _ => fun
  | [d1, d2, d3] => { results := [.lit (.bool false)], args := [d1, d2, d3] }
  | _ => none }
def FnExactWordValueWrongFalsely : Prop := fnExactWordValueRow.holds Try.pinned (OpenSpec.ofChange fnExactWordValueWrong)

/- THE SECOND FORM. 'bulk': how many values and letters a reading holds, each counted each time it is reached (what is shared counts as often as it is met; a slice's spare places count too). A statement '..UptoSaid' is the law's where the arguments, and the package variables that the reading takes, are together of bulk at most 1048576: NARROWER than '..Said'. Prove '..Said' where nothing that the law and all that it calls make is longer than what came in: it says more and counts as full. Else prove '..UptoSaid'. A law counts once. -/
mutual
def uptoBulk {H : Type} : DataW H → Nat
  | .lit (.string bytes) => bytes.length + 1
  | .lit _ => 1
  | .nil => 1
  | .ptr d => uptoBulk d + 1
  | .slice elems spare => uptoBulkAll elems + uptoBulkAll spare + 1
  | .agg parts => uptoBulkAll parts + 1
  | .iface _ d => uptoBulk d + 1
  | .map entries => uptoBulkEntries entries + 1
  | .held _ => 1
def uptoBulkAll {H : Type} : List (DataW H) → Nat
  | [] => 0
  | d :: r => uptoBulk d + uptoBulkAll r
def uptoBulkEntries {H : Type} : List (Lit × DataW H) → Nat
  | [] => 0
  | x :: r => uptoBulkEntry x + uptoBulkEntries r
def uptoBulkEntry {H : Type} : Lit × DataW H → Nat
  | (.string bytes, d) => bytes.length + uptoBulk d + 1
  | (_, d) => uptoBulk d + 1
 end
def uptoSmall : (H : Type) → List (DataW H) → Bool := fun _ ds => decide (uptoBulkAll ds ≤ 1048576)
def OpenSpec.upto (s : _root_.Go.ChangeSpec) : _root_.Go.OpenSpec := { _root_.Go.OpenSpec.ofChange s with cond := some uptoSmall }

/-- 'laws.FnExactAigOK', WHERE WHAT IT READS IS OF BULK AT MOST 1048576: true; the input reads as it did. -/
def fnExactAigOKUptoRow : OpenClaim := { program := "ytdmeonkkbihbhaa", sum := "0cd587bfa72a7404793def8a5c7279ffc0496f1f25eed9eb109fb73dfa20e96b", func := "loop.example/g00159/laws.FnExactAigOK", spec := "fnExactAigOK", apart := false, narrowed := true }
def FnExactAigOKUptoSaid : Prop := fnExactAigOKUptoRow.holds Try.pinned (OpenSpec.upto fnExactAigOKSpec)

/-- 'laws.FnExactWordOK', WHERE WHAT IT READS IS OF BULK AT MOST 1048576: true; the input reads as it did. -/
def fnExactWordOKUptoRow : OpenClaim := { program := "ytdmeonkkbihbhaa", sum := "0cd587bfa72a7404793def8a5c7279ffc0496f1f25eed9eb109fb73dfa20e96b", func := "loop.example/g00159/laws.FnExactWordOK", spec := "fnExactWordOK", unfollowed := true, recurses := true, loops := true, apart := false, narrowed := true }
def FnExactWordOKUptoSaid : Prop := fnExactWordOKUptoRow.holds Try.pinned (OpenSpec.upto fnExactWordOKSpec)

/-- 'laws.FnExactCnfOK', WHERE WHAT IT READS IS OF BULK AT MOST 1048576: true; the input reads as it did. -/
def fnExactCnfOKUptoRow : OpenClaim := { program := "ytdmeonkkbihbhaa", sum := "0cd587bfa72a7404793def8a5c7279ffc0496f1f25eed9eb109fb73dfa20e96b", func := "loop.example/g00159/laws.FnExactCnfOK", spec := "fnExactCnfOK", unfollowed := true, recurses := true, apart := false, narrowed := true }
def FnExactCnfOKUptoSaid : Prop := fnExactCnfOKUptoRow.holds Try.pinned (OpenSpec.upto fnExactCnfOKSpec)

/-- 'laws.FnExactBestRoute', WHERE WHAT IT READS IS OF BULK AT MOST 1048576: true; the input reads as it did. -/
def fnExactBestRouteUptoRow : OpenClaim := { program := "ytdmeonkkbihbhaa", sum := "0cd587bfa72a7404793def8a5c7279ffc0496f1f25eed9eb109fb73dfa20e96b", func := "loop.example/g00159/laws.FnExactBestRoute", spec := "fnExactBestRoute", apart := false, narrowed := true }
def FnExactBestRouteUptoSaid : Prop := fnExactBestRouteUptoRow.holds Try.pinned (OpenSpec.upto fnExactBestRouteSpec)

/-- 'laws.FnExactExOK', WHERE WHAT IT READS IS OF BULK AT MOST 1048576: true; the input reads as it did. -/
def fnExactExOKUptoRow : OpenClaim := { program := "ytdmeonkkbihbhaa", sum := "0cd587bfa72a7404793def8a5c7279ffc0496f1f25eed9eb109fb73dfa20e96b", func := "loop.example/g00159/laws.FnExactExOK", spec := "fnExactExOK", unfollowed := true, recurses := true, loops := true, apart := false, narrowed := true }
def FnExactExOKUptoSaid : Prop := fnExactExOKUptoRow.holds Try.pinned (OpenSpec.upto fnExactExOKSpec)

/-- 'laws.FnCompares', WHERE WHAT IT READS IS OF BULK AT MOST 1048576: true; the input reads as it did. -/
def fnComparesUptoRow : OpenClaim := { program := "ytdmeonkkbihbhaa", sum := "0cd587bfa72a7404793def8a5c7279ffc0496f1f25eed9eb109fb73dfa20e96b", func := "loop.example/g00159/laws.FnCompares", spec := "fnCompares", unfollowed := true, recurses := true, apart := false, narrowed := true }
def FnComparesUptoSaid : Prop := fnComparesUptoRow.holds Try.pinned (OpenSpec.upto fnComparesSpec)

/-- 'laws.FnExactCountModels', WHERE WHAT IT READS IS OF BULK AT MOST 1048576: true; the input reads as it did. -/
def fnExactCountModelsUptoRow : OpenClaim := { program := "ytdmeonkkbihbhaa", sum := "0cd587bfa72a7404793def8a5c7279ffc0496f1f25eed9eb109fb73dfa20e96b", func := "loop.example/g00159/laws.FnExactCountModels", spec := "fnExactCountModels", unfollowed := true, recurses := true, apart := false, narrowed := true }
def FnExactCountModelsUptoSaid : Prop := fnExactCountModelsUptoRow.holds Try.pinned (OpenSpec.upto fnExactCountModelsSpec)

/-- 'laws.FnExactEvalCnf', WHERE WHAT IT READS IS OF BULK AT MOST 1048576: true; the input reads as it did. -/
def fnExactEvalCnfUptoRow : OpenClaim := { program := "ytdmeonkkbihbhaa", sum := "0cd587bfa72a7404793def8a5c7279ffc0496f1f25eed9eb109fb73dfa20e96b", func := "loop.example/g00159/laws.FnExactEvalCnf", spec := "fnExactEvalCnf", unfollowed := true, recurses := true, apart := false, narrowed := true }
def FnExactEvalCnfUptoSaid : Prop := fnExactEvalCnfUptoRow.holds Try.pinned (OpenSpec.upto fnExactEvalCnfSpec)

/-- 'laws.FnExactWordValue', WHERE WHAT IT READS IS OF BULK AT MOST 1048576: true; the input reads as it did. -/
def fnExactWordValueUptoRow : OpenClaim := { program := "ytdmeonkkbihbhaa", sum := "0cd587bfa72a7404793def8a5c7279ffc0496f1f25eed9eb109fb73dfa20e96b", func := "loop.example/g00159/laws.FnExactWordValue", spec := "fnExactWordValue", unfollowed := true, recurses := true, loops := true, apart := false, narrowed := true }
def FnExactWordValueUptoSaid : Prop := fnExactWordValueUptoRow.holds Try.pinned (OpenSpec.upto fnExactWordValueSpec)

end Rows
end Go.Proofs.Ytdmeonkkbihbhaa
