/-
  No cell of these rows narrows 'for every input' (looked for: loops, veiled, ifaces, maps, wideKeys, modest, calm, conditions, laid).
  DERIVED. THE GIVEN ROWS OF THIS SEAT. 9 by the template 'for every input the law returns true; each argument reads behind the call as it read before'; 0 by the template 'total and deterministic' (their statements: YtelfahcjeldliaaTotals.lean).
  GIVEN WITH THE SEED: the statements are not yours to turn. If you find one false, say at which input.
  Laid BY PROGRAM, IN A SANDBOX (cutbox-rows.mjs): the forced cells as the released guide's own fill.sh prints them over the translation e30eca4d41c78fd4… (all of the seat's roots in one cut). By AI agents, Wed Nov 11 2026. No macro, syntax, notation, axiom, sorry.
-/
import Derived.Test.YtelfahcjeldliaaChecked
import GoSem.Claim
import GoSem.ClaimJoined
import GoSem.ClaimMapViews
import Derived.JoinedTies
import Derived.KernelRfl
namespace Go.Proofs.Ytelfahcjeldliaa
/- THE CELL 'sum', in the pinned program and in every row, IS THE sha256 OF THE DUMP (.gsa) THAT YtelfahcjeldliaaProg.lean LOADS. Nothing in Lean hashes anything: it is a label: what it is worth is what the hold of that sum in a sandbox is worth. -/
noncomputable def Try.pinned : Pinned := { name := "ytelfahcjeldliaa", sum := "e30eca4d41c78fd458fc975c078c3c8274ae4b27d794c652e862bfcd9f6546e0", checked := Try.checked }
namespace Rows
def none {H : Type} : Left H := { results := [], args := [] }

/-- 'laws.FnExactCheckProof': WHATEVER THE INPUT: true; the input reads as it did. -/
def fnExactCheckProofSpec : ChangeSpec := { name := "fnExactCheckProof", fn := fun _ => fun
  | [d1, d2] => { results := [.lit (.bool true)], args := [d1, d2] }
  | _ => none }
def fnExactCheckProofRow : OpenClaim := { program := "ytelfahcjeldliaa", sum := "e30eca4d41c78fd458fc975c078c3c8274ae4b27d794c652e862bfcd9f6546e0", func := "loop.example/g00159/laws.FnExactCheckProof", spec := "fnExactCheckProof", unfollowed := true, recurses := true, apart := false }
def FnExactCheckProofSaid : Prop := fnExactCheckProofRow.holds Try.pinned (OpenSpec.ofChange fnExactCheckProofSpec)

/-- ITS FALSE NEIGHBOUR: 'it returns false'. Refute it at one input. -/
def fnExactCheckProofWrong : ChangeSpec := { name := "fnExactCheckProof", fn := fun _ => fun
  | [d1, d2] => { results := [.lit (.bool false)], args := [d1, d2] }
  | _ => none }
def FnExactCheckProofWrongFalsely : Prop := fnExactCheckProofRow.holds Try.pinned (OpenSpec.ofChange fnExactCheckProofWrong)

/-- 'laws.FnExactRup': WHATEVER THE INPUT: true; the input reads as it did. -/
def fnExactRupSpec : ChangeSpec := { name := "fnExactRup", fn := fun _ => fun
  | [d1, d2] => { results := [.lit (.bool true)], args := [d1, d2] }
  | _ => none }
def fnExactRupRow : OpenClaim := { program := "ytelfahcjeldliaa", sum := "e30eca4d41c78fd458fc975c078c3c8274ae4b27d794c652e862bfcd9f6546e0", func := "loop.example/g00159/laws.FnExactRup", spec := "fnExactRup", unfollowed := true, recurses := true, apart := false }
def FnExactRupSaid : Prop := fnExactRupRow.holds Try.pinned (OpenSpec.ofChange fnExactRupSpec)

/-- ITS FALSE NEIGHBOUR: 'it returns false'. Refute it at one input. -/
def fnExactRupWrong : ChangeSpec := { name := "fnExactRup", fn := fun _ => fun
  | [d1, d2] => { results := [.lit (.bool false)], args := [d1, d2] }
  | _ => none }
def FnExactRupWrongFalsely : Prop := fnExactRupRow.holds Try.pinned (OpenSpec.ofChange fnExactRupWrong)

/-- 'laws.FnExactPropagate': WHATEVER THE INPUT: true; the input reads as it did. -/
def fnExactPropagateSpec : ChangeSpec := { name := "fnExactPropagate", fn := fun _ => fun
  | [d1, d2] => { results := [.lit (.bool true)], args := [d1, d2] }
  | _ => none }
def fnExactPropagateRow : OpenClaim := { program := "ytelfahcjeldliaa", sum := "e30eca4d41c78fd458fc975c078c3c8274ae4b27d794c652e862bfcd9f6546e0", func := "loop.example/g00159/laws.FnExactPropagate", spec := "fnExactPropagate", unfollowed := true, recurses := true, apart := false }
def FnExactPropagateSaid : Prop := fnExactPropagateRow.holds Try.pinned (OpenSpec.ofChange fnExactPropagateSpec)

/-- ITS FALSE NEIGHBOUR: 'it returns false'. Refute it at one input. -/
def fnExactPropagateWrong : ChangeSpec := { name := "fnExactPropagate", fn := fun _ => fun
  | [d1, d2] => { results := [.lit (.bool false)], args := [d1, d2] }
  | _ => none }
def FnExactPropagateWrongFalsely : Prop := fnExactPropagateRow.holds Try.pinned (OpenSpec.ofChange fnExactPropagateWrong)

/-- 'laws.FnExactImplied': WHATEVER THE INPUT: true; the input reads as it did. -/
def fnExactImpliedSpec : ChangeSpec := { name := "fnExactImplied", fn := fun _ => fun
  | [d1, d2] => { results := [.lit (.bool true)], args := [d1, d2] }
  | _ => none }
def fnExactImpliedRow : OpenClaim := { program := "ytelfahcjeldliaa", sum := "e30eca4d41c78fd458fc975c078c3c8274ae4b27d794c652e862bfcd9f6546e0", func := "loop.example/g00159/laws.FnExactImplied", spec := "fnExactImplied", unfollowed := true, recurses := true, apart := false }
def FnExactImpliedSaid : Prop := fnExactImpliedRow.holds Try.pinned (OpenSpec.ofChange fnExactImpliedSpec)

/-- ITS FALSE NEIGHBOUR: 'it returns false'. Refute it at one input. -/
def fnExactImpliedWrong : ChangeSpec := { name := "fnExactImplied", fn := fun _ => fun
  | [d1, d2] => { results := [.lit (.bool false)], args := [d1, d2] }
  | _ => none }
def FnExactImpliedWrongFalsely : Prop := fnExactImpliedRow.holds Try.pinned (OpenSpec.ofChange fnExactImpliedWrong)

/-- 'laws.FnExactLeastModel': WHATEVER THE INPUT: true; the input reads as it did. -/
def fnExactLeastModelSpec : ChangeSpec := { name := "fnExactLeastModel", fn := fun _ => fun
  | [d] => { results := [.lit (.bool true)], args := [d] }
  | _ => none }
def fnExactLeastModelRow : OpenClaim := { program := "ytelfahcjeldliaa", sum := "e30eca4d41c78fd458fc975c078c3c8274ae4b27d794c652e862bfcd9f6546e0", func := "loop.example/g00159/laws.FnExactLeastModel", spec := "fnExactLeastModel", unfollowed := true, recurses := true, apart := false }
def FnExactLeastModelSaid : Prop := fnExactLeastModelRow.holds Try.pinned (OpenSpec.ofChange fnExactLeastModelSpec)

/-- ITS FALSE NEIGHBOUR: 'it returns false'. Refute it at one input. -/
def fnExactLeastModelWrong : ChangeSpec := { name := "fnExactLeastModel", fn := fun _ => fun
  | [d] => { results := [.lit (.bool false)], args := [d] }
  | _ => none }
def FnExactLeastModelWrongFalsely : Prop := fnExactLeastModelRow.holds Try.pinned (OpenSpec.ofChange fnExactLeastModelWrong)

/-- 'laws.FnExactRat': WHATEVER THE INPUT: true; the input reads as it did. -/
def fnExactRatSpec : ChangeSpec := { name := "fnExactRat", fn := fun _ => fun
  | [d1, d2] => { results := [.lit (.bool true)], args := [d1, d2] }
  | _ => none }
def fnExactRatRow : OpenClaim := { program := "ytelfahcjeldliaa", sum := "e30eca4d41c78fd458fc975c078c3c8274ae4b27d794c652e862bfcd9f6546e0", func := "loop.example/g00159/laws.FnExactRat", spec := "fnExactRat", unfollowed := true, recurses := true, apart := false }
def FnExactRatSaid : Prop := fnExactRatRow.holds Try.pinned (OpenSpec.ofChange fnExactRatSpec)

/-- ITS FALSE NEIGHBOUR: 'it returns false'. Refute it at one input. -/
def fnExactRatWrong : ChangeSpec := { name := "fnExactRat", fn := fun _ => fun
  | [d1, d2] => { results := [.lit (.bool false)], args := [d1, d2] }
  | _ => none }
def FnExactRatWrongFalsely : Prop := fnExactRatRow.holds Try.pinned (OpenSpec.ofChange fnExactRatWrong)

/-- 'laws.FnExactRefutation': WHATEVER THE INPUT: true; the input reads as it did. -/
def fnExactRefutationSpec : ChangeSpec := { name := "fnExactRefutation", fn := fun _ => fun
  | [d] => { results := [.lit (.bool true)], args := [d] }
  | _ => none }
def fnExactRefutationRow : OpenClaim := { program := "ytelfahcjeldliaa", sum := "e30eca4d41c78fd458fc975c078c3c8274ae4b27d794c652e862bfcd9f6546e0", func := "loop.example/g00159/laws.FnExactRefutation", spec := "fnExactRefutation", unfollowed := true, recurses := true, apart := false }
def FnExactRefutationSaid : Prop := fnExactRefutationRow.holds Try.pinned (OpenSpec.ofChange fnExactRefutationSpec)

/-- ITS FALSE NEIGHBOUR: 'it returns false'. Refute it at one input. -/
def fnExactRefutationWrong : ChangeSpec := { name := "fnExactRefutation", fn := fun _ => fun
  | [d] => { results := [.lit (.bool false)], args := [d] }
  | _ => none }
def FnExactRefutationWrongFalsely : Prop := fnExactRefutationRow.holds Try.pinned (OpenSpec.ofChange fnExactRefutationWrong)

/-- 'laws.FnExactResolve': WHATEVER THE INPUT: true; the input reads as it did. -/
def fnExactResolveSpec : ChangeSpec := { name := "fnExactResolve", fn := fun _ => fun
  | [d1, d2, d3] => { results := [.lit (.bool true)], args := [d1, d2, d3] }
  | _ => none }
def fnExactResolveRow : OpenClaim := { program := "ytelfahcjeldliaa", sum := "e30eca4d41c78fd458fc975c078c3c8274ae4b27d794c652e862bfcd9f6546e0", func := "loop.example/g00159/laws.FnExactResolve", spec := "fnExactResolve", unfollowed := true, recurses := true, apart := false }
def FnExactResolveSaid : Prop := fnExactResolveRow.holds Try.pinned (OpenSpec.ofChange fnExactResolveSpec)

/-- ITS FALSE NEIGHBOUR: 'it returns false'. Refute it at one input. -/
def fnExactResolveWrong : ChangeSpec := { name := "fnExactResolve", fn := fun _ => fun
  | [d1, d2, d3] => { results := [.lit (.bool false)], args := [d1, d2, d3] }
  | _ => none }
def FnExactResolveWrongFalsely : Prop := fnExactResolveRow.holds Try.pinned (OpenSpec.ofChange fnExactResolveWrong)

/-- 'laws.FnExactNormalCnf': WHATEVER THE INPUT: true; the input reads as it did. -/
def fnExactNormalCnfSpec : ChangeSpec := { name := "fnExactNormalCnf", fn := fun _ => fun
  | [d] => { results := [.lit (.bool true)], args := [d] }
  | _ => none }
def fnExactNormalCnfRow : OpenClaim := { program := "ytelfahcjeldliaa", sum := "e30eca4d41c78fd458fc975c078c3c8274ae4b27d794c652e862bfcd9f6546e0", func := "loop.example/g00159/laws.FnExactNormalCnf", spec := "fnExactNormalCnf", unfollowed := true, recurses := true, apart := false }
def FnExactNormalCnfSaid : Prop := fnExactNormalCnfRow.holds Try.pinned (OpenSpec.ofChange fnExactNormalCnfSpec)

/-- ITS FALSE NEIGHBOUR: 'it returns false'. Refute it at one input. -/
def fnExactNormalCnfWrong : ChangeSpec := { name := "fnExactNormalCnf", fn := fun _ => fun
  | [d] => { results := [.lit (.bool false)], args := [d] }
  | _ => none }
def FnExactNormalCnfWrongFalsely : Prop := fnExactNormalCnfRow.holds Try.pinned (OpenSpec.ofChange fnExactNormalCnfWrong)

/- THE SECOND FORM. 'bulk': how many values and letters a reading holds, each counted each time it is reached (what is shared counts as often as it is met; a slice's spare places count too). A statement '..UptoSaid' is the law's where the arguments, and the package variables that the reading takes, are together of bulk at most 1048576: NARROWER than '..Said'. Prove '..Said' where nothing that the law and all that it calls make is longer than what came in: it says more and counts as full. Else prove '..UptoSaid'. A law counts once. -/
mutual
def uptoBulk {H : Type} : DataW H → Nat
  | .lit (.string bytes) => bytes.length + 1
  | .lit _ => 1
  | .nil => 1
  | .ptr d => uptoBulk d + 1
  | .slice elems spare => uptoBulkAll elems + uptoBulkAll spare + 1
  | .agg parts => uptoBulkAll parts + 1
  | .iface _ d => uptoBulk d + 1
  | .map entries => uptoBulkEntries entries + 1
  | .held _ => 1
def uptoBulkAll {H : Type} : List (DataW H) → Nat
  | [] => 0
  | d :: r => uptoBulk d + uptoBulkAll r
def uptoBulkEntries {H : Type} : List (Lit × DataW H) → Nat
  | [] => 0
  | x :: r => uptoBulkEntry x + uptoBulkEntries r
def uptoBulkEntry {H : Type} : Lit × DataW H → Nat
  | (.string bytes, d) => bytes.length + uptoBulk d + 1
  | (_, d) => uptoBulk d + 1
 end
def uptoSmall : (H : Type) → List (DataW H) → Bool := fun _ ds => decide (uptoBulkAll ds ≤ 1048576)
def OpenSpec.upto (s : _root_.Go.ChangeSpec) : _root_.Go.OpenSpec := { _root_.Go.OpenSpec.ofChange s with cond := some uptoSmall }

/-- 'laws.FnExactCheckProof', WHERE WHAT IT READS IS OF BULK AT MOST 1048576: true; the input reads as it did. -/
def fnExactCheckProofUptoRow : OpenClaim := { program := "ytelfahcjeldliaa", sum := "e30eca4d41c78fd458fc975c078c3c8274ae4b27d794c652e862bfcd9f6546e0", func := "loop.example/g00159/laws.FnExactCheckProof", spec := "fnExactCheckProof", unfollowed := true, recurses := true, apart := false, narrowed := true }
def FnExactCheckProofUptoSaid : Prop := fnExactCheckProofUptoRow.holds Try.pinned (OpenSpec.upto fnExactCheckProofSpec)

/-- 'laws.FnExactRup', WHERE WHAT IT READS IS OF BULK AT MOST 1048576: true; the input reads as it did. -/
def fnExactRupUptoRow : OpenClaim := { program := "ytelfahcjeldliaa", sum := "e30eca4d41c78fd458fc975c078c3c8274ae4b27d794c652e862bfcd9f6546e0", func := "loop.example/g00159/laws.FnExactRup", spec := "fnExactRup", unfollowed := true, recurses := true, apart := false, narrowed := true }
def FnExactRupUptoSaid : Prop := fnExactRupUptoRow.holds Try.pinned (OpenSpec.upto fnExactRupSpec)

/-- 'laws.FnExactPropagate', WHERE WHAT IT READS IS OF BULK AT MOST 1048576: true; the input reads as it did. -/
def fnExactPropagateUptoRow : OpenClaim := { program := "ytelfahcjeldliaa", sum := "e30eca4d41c78fd458fc975c078c3c8274ae4b27d794c652e862bfcd9f6546e0", func := "loop.example/g00159/laws.FnExactPropagate", spec := "fnExactPropagate", unfollowed := true, recurses := true, apart := false, narrowed := true }
def FnExactPropagateUptoSaid : Prop := fnExactPropagateUptoRow.holds Try.pinned (OpenSpec.upto fnExactPropagateSpec)

/-- 'laws.FnExactImplied', WHERE WHAT IT READS IS OF BULK AT MOST 1048576: true; the input reads as it did. -/
def fnExactImpliedUptoRow : OpenClaim := { program := "ytelfahcjeldliaa", sum := "e30eca4d41c78fd458fc975c078c3c8274ae4b27d794c652e862bfcd9f6546e0", func := "loop.example/g00159/laws.FnExactImplied", spec := "fnExactImplied", unfollowed := true, recurses := true, apart := false, narrowed := true }
def FnExactImpliedUptoSaid : Prop := fnExactImpliedUptoRow.holds Try.pinned (OpenSpec.upto fnExactImpliedSpec)

/-- 'laws.FnExactLeastModel', WHERE WHAT IT READS IS OF BULK AT MOST 1048576: true; the input reads as it did. -/
def fnExactLeastModelUptoRow : OpenClaim := { program := "ytelfahcjeldliaa", sum := "e30eca4d41c78fd458fc975c078c3c8274ae4b27d794c652e862bfcd9f6546e0", func := "loop.example/g00159/laws.FnExactLeastModel", spec := "fnExactLeastModel", unfollowed := true, recurses := true, apart := false, narrowed := true }
def FnExactLeastModelUptoSaid : Prop := fnExactLeastModelUptoRow.holds Try.pinned (OpenSpec.upto fnExactLeastModelSpec)

/-- 'laws.FnExactRat', WHERE WHAT IT READS IS OF BULK AT MOST 1048576: true; the input reads as it did. -/
def fnExactRatUptoRow : OpenClaim := { program := "ytelfahcjeldliaa", sum := "e30eca4d41c78fd458fc975c078c3c8274ae4b27d794c652e862bfcd9f6546e0", func := "loop.example/g00159/laws.FnExactRat", spec := "fnExactRat", unfollowed := true, recurses := true, apart := false, narrowed := true }
def FnExactRatUptoSaid : Prop := fnExactRatUptoRow.holds Try.pinned (OpenSpec.upto fnExactRatSpec)

/-- 'laws.FnExactRefutation', WHERE WHAT IT READS IS OF BULK AT MOST 1048576: true; the input reads as it did. -/
def fnExactRefutationUptoRow : OpenClaim := { program := "ytelfahcjeldliaa", sum := "e30eca4d41c78fd458fc975c078c3c8274ae4b27d794c652e862bfcd9f6546e0", func := "loop.example/g00159/laws.FnExactRefutation", spec := "fnExactRefutation", unfollowed := true, recurses := true, apart := false, narrowed := true }
def FnExactRefutationUptoSaid : Prop := fnExactRefutationUptoRow.holds Try.pinned (OpenSpec.upto fnExactRefutationSpec)

/-- 'laws.FnExactResolve', WHERE WHAT IT READS IS OF BULK AT MOST 1048576: true; the input reads as it did. -/
def fnExactResolveUptoRow : OpenClaim := { program := "ytelfahcjeldliaa", sum := "e30eca4d41c78fd458fc975c078c3c8274ae4b27d794c652e862bfcd9f6546e0", func := "loop.example/g00159/laws.FnExactResolve", spec := "fnExactResolve", unfollowed := true, recurses := true, apart := false, narrowed := true }
def FnExactResolveUptoSaid : Prop := fnExactResolveUptoRow.holds Try.pinned (OpenSpec.upto fnExactResolveSpec)

/-- 'laws.FnExactNormalCnf', WHERE WHAT IT READS IS OF BULK AT MOST 1048576: true; the input reads as it did. -/
def fnExactNormalCnfUptoRow : OpenClaim := { program := "ytelfahcjeldliaa", sum := "e30eca4d41c78fd458fc975c078c3c8274ae4b27d794c652e862bfcd9f6546e0", func := "loop.example/g00159/laws.FnExactNormalCnf", spec := "fnExactNormalCnf", unfollowed := true, recurses := true, apart := false, narrowed := true }
def FnExactNormalCnfUptoSaid : Prop := fnExactNormalCnfUptoRow.holds Try.pinned (OpenSpec.upto fnExactNormalCnfSpec)

end Rows
end Go.Proofs.Ytelfahcjeldliaa
