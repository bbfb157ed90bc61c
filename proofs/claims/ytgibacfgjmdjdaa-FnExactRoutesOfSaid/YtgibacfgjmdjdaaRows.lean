/-
  No cell of these rows narrows 'for every input' (looked for: loops, veiled, ifaces, maps, wideKeys, modest, calm, conditions, laid).
  DERIVED. THE GIVEN ROWS OF THIS SEAT. 5 by the template 'for every input the law returns true; each argument reads behind the call as it read before'; 0 by the template 'total and deterministic' (their statements: YtgibacfgjmdjdaaTotals.lean).
  GIVEN WITH THE SEED: the statements are not yours to turn. If you find one false, say at which input.
  Laid BY PROGRAM, IN A SANDBOX (cutbox-rows.mjs): the forced cells as the released guide's own fill.sh prints them over the translation 089663f8198ee448… (all of the seat's roots in one cut). By AI agents, Wed Nov 11 2026. No macro, syntax, notation, axiom, sorry.
-/
import Derived.Test.YtgibacfgjmdjdaaChecked
import GoSem.Claim
import GoSem.ClaimJoined
import GoSem.ClaimMapViews
import Derived.JoinedTies
import Derived.KernelRfl
namespace Go.Proofs.Ytgibacfgjmdjdaa
/- THE CELL 'sum', in the pinned program and in every row, IS THE sha256 OF THE DUMP (.gsa) THAT YtgibacfgjmdjdaaProg.lean LOADS. Nothing in Lean hashes anything: it is a label: what it is worth is what the hold of that sum in a sandbox is worth. -/
noncomputable def Try.pinned : Pinned := { name := "ytgibacfgjmdjdaa", sum := "089663f8198ee4481830b515c24a5af14c8a914c27f49de3e8c08d40365296f5", checked := Try.checked }
namespace Rows
def none {H : Type} : Left H := { results := [], args := [] }

/-- 'laws.FnExactRoutesOf': WHATEVER THE INPUT: true; the input reads as it did. -/
def fnExactRoutesOfSpec : ChangeSpec := { name := "fnExactRoutesOf", fn := fun _ => fun
  | [d1, d2, d3, d4] => { results := [.lit (.bool true)], args := [d1, d2, d3, d4] }
  | _ => none }
def fnExactRoutesOfRow : OpenClaim := { program := "ytgibacfgjmdjdaa", sum := "089663f8198ee4481830b515c24a5af14c8a914c27f49de3e8c08d40365296f5", func := "loop.example/g00159/laws.FnExactRoutesOf", spec := "fnExactRoutesOf", unfollowed := true, recurses := true, apart := false }
def FnExactRoutesOfSaid : Prop := fnExactRoutesOfRow.holds Try.pinned (OpenSpec.ofChange fnExactRoutesOfSpec)

/-- ITS FALSE NEIGHBOUR: 'it returns false'. Refute it at one input. -/
def fnExactRoutesOfWrong : ChangeSpec := { name := "fnExactRoutesOf", fn := fun _ => fun
  | [d1, d2, d3, d4] => { results := [.lit (.bool false)], args := [d1, d2, d3, d4] }
  | _ => none }
def FnExactRoutesOfWrongFalsely : Prop := fnExactRoutesOfRow.holds Try.pinned (OpenSpec.ofChange fnExactRoutesOfWrong)

/-- 'laws.FnExactNetOK': WHATEVER THE INPUT: true; the input reads as it did. -/
def fnExactNetOKSpec : ChangeSpec := { name := "fnExactNetOK", fn := fun _ => fun
  | [d] => { results := [.lit (.bool true)], args := [d] }
  | _ => none }
def fnExactNetOKRow : OpenClaim := { program := "ytgibacfgjmdjdaa", sum := "089663f8198ee4481830b515c24a5af14c8a914c27f49de3e8c08d40365296f5", func := "loop.example/g00159/laws.FnExactNetOK", spec := "fnExactNetOK", unfollowed := true, recurses := true, apart := false }
def FnExactNetOKSaid : Prop := fnExactNetOKRow.holds Try.pinned (OpenSpec.ofChange fnExactNetOKSpec)

/-- ITS FALSE NEIGHBOUR: 'it returns false'. Refute it at one input. -/
def fnExactNetOKWrong : ChangeSpec := { name := "fnExactNetOK", fn := fun _ => fun
  | [d] => { results := [.lit (.bool false)], args := [d] }
  | _ => none }
def FnExactNetOKWrongFalsely : Prop := fnExactNetOKRow.holds Try.pinned (OpenSpec.ofChange fnExactNetOKWrong)

/-- 'laws.FnExactNeighbours': WHATEVER THE INPUT: true; the input reads as it did. -/
def fnExactNeighboursSpec : ChangeSpec := { name := "fnExactNeighbours", fn := fun _ => fun
  | [d1, d2, d3] => { results := [.lit (.bool true)], args := [d1, d2, d3] }
  | _ => none }
def fnExactNeighboursRow : OpenClaim := { program := "ytgibacfgjmdjdaa", sum := "089663f8198ee4481830b515c24a5af14c8a914c27f49de3e8c08d40365296f5", func := "loop.example/g00159/laws.FnExactNeighbours", spec := "fnExactNeighbours", unfollowed := true, recurses := true, apart := false }
def FnExactNeighboursSaid : Prop := fnExactNeighboursRow.holds Try.pinned (OpenSpec.ofChange fnExactNeighboursSpec)

/-- ITS FALSE NEIGHBOUR: 'it returns false'. Refute it at one input. -/
def fnExactNeighboursWrong : ChangeSpec := { name := "fnExactNeighbours", fn := fun _ => fun
  | [d1, d2, d3] => { results := [.lit (.bool false)], args := [d1, d2, d3] }
  | _ => none }
def FnExactNeighboursWrongFalsely : Prop := fnExactNeighboursRow.holds Try.pinned (OpenSpec.ofChange fnExactNeighboursWrong)

/-- 'laws.FnExactIsStable': WHATEVER THE INPUT: true; the input reads as it did. -/
def fnExactIsStableSpec : ChangeSpec := { name := "fnExactIsStable", fn := fun _ => fun
  | [d1, d2, d3, d4] => { results := [.lit (.bool true)], args := [d1, d2, d3, d4] }
  | _ => none }
def fnExactIsStableRow : OpenClaim := { program := "ytgibacfgjmdjdaa", sum := "089663f8198ee4481830b515c24a5af14c8a914c27f49de3e8c08d40365296f5", func := "loop.example/g00159/laws.FnExactIsStable", spec := "fnExactIsStable", unfollowed := true, recurses := true, apart := false }
def FnExactIsStableSaid : Prop := fnExactIsStableRow.holds Try.pinned (OpenSpec.ofChange fnExactIsStableSpec)

/-- ITS FALSE NEIGHBOUR: 'it returns false'. Refute it at one input. -/
def fnExactIsStableWrong : ChangeSpec := { name := "fnExactIsStable", fn := fun _ => fun
  | [d1, d2, d3, d4] => { results := [.lit (.bool false)], args := [d1, d2, d3, d4] }
  | _ => none }
def FnExactIsStableWrongFalsely : Prop := fnExactIsStableRow.holds Try.pinned (OpenSpec.ofChange fnExactIsStableWrong)

/-- 'laws.FnExactCandidates': WHATEVER THE INPUT: true; the input reads as it did. -/
def fnExactCandidatesSpec : ChangeSpec := { name := "fnExactCandidates", fn := fun _ => fun
  | [d1, d2, d3, d4, d5] => { results := [.lit (.bool true)], args := [d1, d2, d3, d4, d5] }
  | _ => none }
def fnExactCandidatesRow : OpenClaim := { program := "ytgibacfgjmdjdaa", sum := "089663f8198ee4481830b515c24a5af14c8a914c27f49de3e8c08d40365296f5", func := "loop.example/g00159/laws.FnExactCandidates", spec := "fnExactCandidates", unfollowed := true, recurses := true, apart := false }
def FnExactCandidatesSaid : Prop := fnExactCandidatesRow.holds Try.pinned (OpenSpec.ofChange fnExactCandidatesSpec)

/-- ITS FALSE NEIGHBOUR: 'it returns false'. Refute it at one input. -/
def fnExactCandidatesWrong : ChangeSpec := { name := "fnExactCandidates", fn := fun _ => fun
  | [d1, d2, d3, d4, d5] => { results := [.lit (.bool false)], args := [d1, d2, d3, d4, d5] }
  | _ => none }
def FnExactCandidatesWrongFalsely : Prop := fnExactCandidatesRow.holds Try.pinned (OpenSpec.ofChange fnExactCandidatesWrong)

/- THE SECOND FORM. 'bulk': how many values and letters a reading holds, each counted each time it is reached (what is shared counts as often as it is met; a slice's spare places count too). A statement '..UptoSaid' is the law's where the arguments, and the package variables that the reading takes, are together of bulk at most 1048576: NARROWER than '..Said'. Prove '..Said' where nothing that the law and all that it calls make is longer than what came in: it says more and counts as full. Else prove '..UptoSaid'. A law counts once. -/
mutual
def uptoBulk {H : Type} : DataW H → Nat
  | .lit (.string bytes) => bytes.length + 1
  | .lit _ => 1
  | .nil => 1
  | .ptr d => uptoBulk d + 1
  | .slice elems spare => uptoBulkAll elems + uptoBulkAll spare + 1
  | .agg parts => uptoBulkAll parts + 1
  | .iface _ d => uptoBulk d + 1
  | .map entries => uptoBulkEntries entries + 1
  | .held _ => 1
def uptoBulkAll {H : Type} : List (DataW H) → Nat
  | [] => 0
  | d :: r => uptoBulk d + uptoBulkAll r
def uptoBulkEntries {H : Type} : List (Lit × DataW H) → Nat
  | [] => 0
  | x :: r => uptoBulkEntry x + uptoBulkEntries r
def uptoBulkEntry {H : Type} : Lit × DataW H → Nat
  | (.string bytes, d) => bytes.length + uptoBulk d + 1
  | (_, d) => uptoBulk d + 1
 end
def uptoSmall : (H : Type) → List (DataW H) → Bool := fun _ ds => decide (uptoBulkAll ds ≤ 1048576)
def OpenSpec.upto (s : _root_.Go.ChangeSpec) : _root_.Go.OpenSpec := { _root_.Go.OpenSpec.ofChange s with cond := some uptoSmall }

/-- 'laws.FnExactRoutesOf', WHERE WHAT IT READS IS OF BULK AT MOST 1048576: true; the input reads as it did. -/
def fnExactRoutesOfUptoRow : OpenClaim := { program := "ytgibacfgjmdjdaa", sum := "089663f8198ee4481830b515c24a5af14c8a914c27f49de3e8c08d40365296f5", func := "loop.example/g00159/laws.FnExactRoutesOf", spec := "fnExactRoutesOf", unfollowed := true, recurses := true, apart := false, narrowed := true }
def FnExactRoutesOfUptoSaid : Prop := fnExactRoutesOfUptoRow.holds Try.pinned (OpenSpec.upto fnExactRoutesOfSpec)

/-- 'laws.FnExactNetOK', WHERE WHAT IT READS IS OF BULK AT MOST 1048576: true; the input reads as it did. -/
def fnExactNetOKUptoRow : OpenClaim := { program := "ytgibacfgjmdjdaa", sum := "089663f8198ee4481830b515c24a5af14c8a914c27f49de3e8c08d40365296f5", func := "loop.example/g00159/laws.FnExactNetOK", spec := "fnExactNetOK", unfollowed := true, recurses := true, apart := false, narrowed := true }
def FnExactNetOKUptoSaid : Prop := fnExactNetOKUptoRow.holds Try.pinned (OpenSpec.upto fnExactNetOKSpec)

/-- 'laws.FnExactNeighbours', WHERE WHAT IT READS IS OF BULK AT MOST 1048576: true; the input reads as it did. -/
def fnExactNeighboursUptoRow : OpenClaim := { program := "ytgibacfgjmdjdaa", sum := "089663f8198ee4481830b515c24a5af14c8a914c27f49de3e8c08d40365296f5", func := "loop.example/g00159/laws.FnExactNeighbours", spec := "fnExactNeighbours", unfollowed := true, recurses := true, apart := false, narrowed := true }
def FnExactNeighboursUptoSaid : Prop := fnExactNeighboursUptoRow.holds Try.pinned (OpenSpec.upto fnExactNeighboursSpec)

/-- 'laws.FnExactIsStable', WHERE WHAT IT READS IS OF BULK AT MOST 1048576: true; the input reads as it did. -/
def fnExactIsStableUptoRow : OpenClaim := { program := "ytgibacfgjmdjdaa", sum := "089663f8198ee4481830b515c24a5af14c8a914c27f49de3e8c08d40365296f5", func := "loop.example/g00159/laws.FnExactIsStable", spec := "fnExactIsStable", unfollowed := true, recurses := true, apart := false, narrowed := true }
def FnExactIsStableUptoSaid : Prop := fnExactIsStableUptoRow.holds Try.pinned (OpenSpec.upto fnExactIsStableSpec)

/-- 'laws.FnExactCandidates', WHERE WHAT IT READS IS OF BULK AT MOST 1048576: true; the input reads as it did. -/
def fnExactCandidatesUptoRow : OpenClaim := { program := "ytgibacfgjmdjdaa", sum := "089663f8198ee4481830b515c24a5af14c8a914c27f49de3e8c08d40365296f5", func := "loop.example/g00159/laws.FnExactCandidates", spec := "fnExactCandidates", unfollowed := true, recurses := true, apart := false, narrowed := true }
def FnExactCandidatesUptoSaid : Prop := fnExactCandidatesUptoRow.holds Try.pinned (OpenSpec.upto fnExactCandidatesSpec)

end Rows
end Go.Proofs.Ytgibacfgjmdjdaa
