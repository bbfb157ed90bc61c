/-
  NARROWER THAN 'FOR EVERY INPUT', by the rows' own cells (each row's printed sentence says how): FnExactEvalEx: loops · FnExactAtMostEx: loops · FnExactEqualEx: loops · FnExactLessEx: loops · FnExactWordBits: loops · FnExactBuildAig: loops.
  DERIVED. THE GIVEN ROWS OF THIS SEAT. 8 by the template 'for every input the law returns true; each argument reads behind the call as it read before'; 0 by the template 'total and deterministic' (their statements: YtcmkkoggdcjceaaTotals.lean).
  GIVEN WITH THE SEED: the statements are not yours to turn. If you find one false, say at which input.
  Laid BY PROGRAM, IN A SANDBOX (cutbox-rows.mjs): the forced cells as the released guide's own fill.sh prints them over the translation 8e0d3f7e4c88c710… (all of the seat's roots in one cut). By AI agents, Wed Nov 11 2026. No macro, syntax, notation, axiom, sorry.
-/
import Derived.Test.YtcmkkoggdcjceaaChecked
import GoSem.Claim
import GoSem.ClaimJoined
import GoSem.ClaimMapViews
import Derived.JoinedTies
import Derived.KernelRfl
namespace Go.Proofs.Ytcmkkoggdcjceaa
/- THE CELL 'sum', in the pinned program and in every row, IS THE sha256 OF THE DUMP (.gsa) THAT YtcmkkoggdcjceaaProg.lean LOADS. Nothing in Lean hashes anything: it is a label: what it is worth is what the hold of that sum in a sandbox is worth. -/
noncomputable def Try.pinned : Pinned := { name := "ytcmkkoggdcjceaa", sum := "8e0d3f7e4c88c710959e77a7f9ccf27625d82b37390c732c5be8cf5b5c6f5709", checked := Try.checked }
namespace Rows
def none {H : Type} : Left H := { results := [], args := [] }

/-- 'laws.FnExactEvalEx': WHATEVER THE INPUT: true; the input reads as it did. -/
def fnExactEvalExSpec : ChangeSpec := { name := "fnExactEvalEx", fn := fun _ => fun
  | [d1, d2] => { results := [.lit (.bool true)], args := [d1, d2] }
  | _ => none }
def fnExactEvalExRow : OpenClaim := { program := "ytcmkkoggdcjceaa", sum := "8e0d3f7e4c88c710959e77a7f9ccf27625d82b37390c732c5be8cf5b5c6f5709", func := "loop.example/g00159/laws.FnExactEvalEx", spec := "fnExactEvalEx", unfollowed := true, recurses := true, loops := true, apart := false }
def FnExactEvalExSaid : Prop := fnExactEvalExRow.holds Try.pinned (OpenSpec.ofChange fnExactEvalExSpec)

/-- ITS FALSE NEIGHBOUR: 'it returns false'. Refute it at one input. -/
def fnExactEvalExWrong : ChangeSpec := { name := "fnExactEvalEx", fn := fun _ => fun
  | [d1, d2] => { results := [.lit (.bool false)], args := [d1, d2] }
  | _ => none }
def FnExactEvalExWrongFalsely : Prop := fnExactEvalExRow.holds Try.pinned (OpenSpec.ofChange fnExactEvalExWrong)

/-- 'laws.FnExactEvalAig': WHATEVER THE INPUT: true; the input reads as it did. -/
def fnExactEvalAigSpec : ChangeSpec := { name := "fnExactEvalAig", fn := fun _ => fun
  | [d1, d2, d3] => { results := [.lit (.bool true)], args := [d1, d2, d3] }
  | _ => none }
def fnExactEvalAigRow : OpenClaim := { program := "ytcmkkoggdcjceaa", sum := "8e0d3f7e4c88c710959e77a7f9ccf27625d82b37390c732c5be8cf5b5c6f5709", func := "loop.example/g00159/laws.FnExactEvalAig", spec := "fnExactEvalAig", unfollowed := true, recurses := true, apart := false }
def FnExactEvalAigSaid : Prop := fnExactEvalAigRow.holds Try.pinned (OpenSpec.ofChange fnExactEvalAigSpec)

/-- ITS FALSE NEIGHBOUR: 'it returns false'. Refute it at one input. -/
def fnExactEvalAigWrong : ChangeSpec := { name := "fnExactEvalAig", fn := fun _ => fun
  | [d1, d2, d3] => { results := [.lit (.bool false)], args := [d1, d2, d3] }
  | _ => none }
def FnExactEvalAigWrongFalsely : Prop := fnExactEvalAigRow.holds Try.pinned (OpenSpec.ofChange fnExactEvalAigWrong)

/-- 'laws.FnExactAtMostEx': WHATEVER THE INPUT: true; the input reads as it did. -/
def fnExactAtMostExSpec : ChangeSpec := { name := "fnExactAtMostEx", fn := fun _ => fun
  | [d1, d2] => { results := [.lit (.bool true)], args := [d1, d2] }
  | _ => none }
def fnExactAtMostExRow : OpenClaim := { program := "ytcmkkoggdcjceaa", sum := "8e0d3f7e4c88c710959e77a7f9ccf27625d82b37390c732c5be8cf5b5c6f5709", func := "loop.example/g00159/laws.FnExactAtMostEx", spec := "fnExactAtMostEx", unfollowed := true, recurses := true, loops := true, apart := false }
def FnExactAtMostExSaid : Prop := fnExactAtMostExRow.holds Try.pinned (OpenSpec.ofChange fnExactAtMostExSpec)

/-- ITS FALSE NEIGHBOUR: 'it returns false'. Refute it at one input. -/
def fnExactAtMostExWrong : ChangeSpec := { name := "fnExactAtMostEx", fn := fun _ => fun
  | [d1, d2] => { results := [.lit (.bool false)], args := [d1, d2] }
  | _ => none }
def FnExactAtMostExWrongFalsely : Prop := fnExactAtMostExRow.holds Try.pinned (OpenSpec.ofChange fnExactAtMostExWrong)

/-- 'laws.FnExactEqualEx': WHATEVER THE INPUT: true; the input reads as it did. -/
def fnExactEqualExSpec : ChangeSpec := { name := "fnExactEqualEx", fn := fun _ => fun
  | [d1, d2] => { results := [.lit (.bool true)], args := [d1, d2] }
  | _ => none }
def fnExactEqualExRow : OpenClaim := { program := "ytcmkkoggdcjceaa", sum := "8e0d3f7e4c88c710959e77a7f9ccf27625d82b37390c732c5be8cf5b5c6f5709", func := "loop.example/g00159/laws.FnExactEqualEx", spec := "fnExactEqualEx", unfollowed := true, recurses := true, loops := true, apart := false }
def FnExactEqualExSaid : Prop := fnExactEqualExRow.holds Try.pinned (OpenSpec.ofChange fnExactEqualExSpec)

/-- ITS FALSE NEIGHBOUR: 'it returns false'. Refute it at one input. -/
def fnExactEqualExWrong : ChangeSpec := { name := "fnExactEqualEx", fn := fun _ => fun
  | [d1, d2] => { results := [.lit (.bool false)], args := [d1, d2] }
  | _ => none }
def FnExactEqualExWrongFalsely : Prop := fnExactEqualExRow.holds Try.pinned (OpenSpec.ofChange fnExactEqualExWrong)

/-- 'laws.FnExactLessEx': WHATEVER THE INPUT: true; the input reads as it did. -/
def fnExactLessExSpec : ChangeSpec := { name := "fnExactLessEx", fn := fun _ => fun
  | [d1, d2] => { results := [.lit (.bool true)], args := [d1, d2] }
  | _ => none }
def fnExactLessExRow : OpenClaim := { program := "ytcmkkoggdcjceaa", sum := "8e0d3f7e4c88c710959e77a7f9ccf27625d82b37390c732c5be8cf5b5c6f5709", func := "loop.example/g00159/laws.FnExactLessEx", spec := "fnExactLessEx", unfollowed := true, recurses := true, loops := true, apart := false }
def FnExactLessExSaid : Prop := fnExactLessExRow.holds Try.pinned (OpenSpec.ofChange fnExactLessExSpec)

/-- ITS FALSE NEIGHBOUR: 'it returns false'. Refute it at one input. -/
def fnExactLessExWrong : ChangeSpec := { name := "fnExactLessEx", fn := fun _ => fun
  | [d1, d2] => { results := [.lit (.bool false)], args := [d1, d2] }
  | _ => none }
def FnExactLessExWrongFalsely : Prop := fnExactLessExRow.holds Try.pinned (OpenSpec.ofChange fnExactLessExWrong)

/-- 'laws.FnExactTseitin': WHATEVER THE INPUT: true; the input reads as it did. -/
def fnExactTseitinSpec : ChangeSpec := { name := "fnExactTseitin", fn := fun _ => fun
  | [d1, d2] => { results := [.lit (.bool true)], args := [d1, d2] }
  | _ => none }
def fnExactTseitinRow : OpenClaim := { program := "ytcmkkoggdcjceaa", sum := "8e0d3f7e4c88c710959e77a7f9ccf27625d82b37390c732c5be8cf5b5c6f5709", func := "loop.example/g00159/laws.FnExactTseitin", spec := "fnExactTseitin", unfollowed := true, recurses := true, apart := false }
def FnExactTseitinSaid : Prop := fnExactTseitinRow.holds Try.pinned (OpenSpec.ofChange fnExactTseitinSpec)

/-- ITS FALSE NEIGHBOUR: 'it returns false'. Refute it at one input. -/
def fnExactTseitinWrong : ChangeSpec := { name := "fnExactTseitin", fn := fun _ => fun
  | [d1, d2] => { results := [.lit (.bool false)], args := [d1, d2] }
  | _ => none }
def FnExactTseitinWrongFalsely : Prop := fnExactTseitinRow.holds Try.pinned (OpenSpec.ofChange fnExactTseitinWrong)

/-- 'laws.FnExactWordBits': WHATEVER THE INPUT: true; the input reads as it did. -/
def fnExactWordBitsSpec : ChangeSpec := { name := "fnExactWordBits", fn := fun _ => fun
  | [d1, d2] => { results := [.lit (.bool true)], args := [d1, d2] }
  | _ => none }
def fnExactWordBitsRow : OpenClaim := { program := "ytcmkkoggdcjceaa", sum := "8e0d3f7e4c88c710959e77a7f9ccf27625d82b37390c732c5be8cf5b5c6f5709", func := "loop.example/g00159/laws.FnExactWordBits", spec := "fnExactWordBits", unfollowed := true, recurses := true, loops := true, apart := false }
def FnExactWordBitsSaid : Prop := fnExactWordBitsRow.holds Try.pinned (OpenSpec.ofChange fnExactWordBitsSpec)

/-- ITS FALSE NEIGHBOUR: 'it returns false'. Refute it at one input. -/
def fnExactWordBitsWrong : ChangeSpec := { name := "fnExactWordBits", fn := fun _ => fun
  | [d1, d2] => { results := [.lit (.bool false)], args := [d1, d2] }
  | _ => none }
def FnExactWordBitsWrongFalsely : Prop := fnExactWordBitsRow.holds Try.pinned (OpenSpec.ofChange fnExactWordBitsWrong)

/-- 'laws.FnExactBuildAig': WHATEVER THE INPUT: true; the input reads as it did. -/
def fnExactBuildAigSpec : ChangeSpec := { name := "fnExactBuildAig", fn := fun _ => fun
  | [d1, d2] => { results := [.lit (.bool true)], args := [d1, d2] }
  | _ => none }
def fnExactBuildAigRow : OpenClaim := { program := "ytcmkkoggdcjceaa", sum := "8e0d3f7e4c88c710959e77a7f9ccf27625d82b37390c732c5be8cf5b5c6f5709", func := "loop.example/g00159/laws.FnExactBuildAig", spec := "fnExactBuildAig", unfollowed := true, recurses := true, loops := true, apart := false }
def FnExactBuildAigSaid : Prop := fnExactBuildAigRow.holds Try.pinned (OpenSpec.ofChange fnExactBuildAigSpec)

/-- ITS FALSE NEIGHBOUR: 'it returns false'. Refute it at one input. -/
def fnExactBuildAigWrong : ChangeSpec := { name := "fnExactBuildAig", fn := fun _ => fun
  | [d1, d2] => { results := [.lit (.bool false)], args := [d1, d2] }
  | _ => none }
def FnExactBuildAigWrongFalsely : Prop := fnExactBuildAigRow.holds Try.pinned (OpenSpec.ofChange fnExactBuildAigWrong)

/- THE SECOND FORM. 'bulk': how many values and letters a reading holds, each counted each time it is reached (what is shared counts as often as it is met; a slice's spare places count too). A statement '..UptoSaid' is the law's where the arguments, and the package variables that the reading takes, are together of bulk at most 1048576: NARROWER than '..Said'. Prove '..Said' where nothing that the law and all that it calls make is longer than what came in: it says more and counts as full. Else prove '..UptoSaid'. A law counts once. -/
mutual
def uptoBulk {H : Type} : DataW H → Nat
  | .lit (.string bytes) => bytes.length + 1
  | .lit _ => 1
  | .nil => 1
  | .ptr d => uptoBulk d + 1
  | .slice elems spare => uptoBulkAll elems + uptoBulkAll spare + 1
  | .agg parts => uptoBulkAll parts + 1
  | .iface _ d => uptoBulk d + 1
  | .map entries => uptoBulkEntries entries + 1
  | .held _ => 1
def uptoBulkAll {H : Type} : List (DataW H) → Nat
  | [] => 0
  | d :: r => uptoBulk d + uptoBulkAll r
def uptoBulkEntries {H : Type} : List (Lit × DataW H) → Nat
  | [] => 0
  | x :: r => uptoBulkEntry x + uptoBulkEntries r
def uptoBulkEntry {H : Type} : Lit × DataW H → Nat
  | (.string bytes, d) => bytes.length + uptoBulk d + 1
  | (_, d) => uptoBulk d + 1
 end
def uptoSmall : (H : Type) → List (DataW H) → Bool := fun _ ds => decide (uptoBulkAll ds ≤ 1048576)
def OpenSpec.upto (s : _root_.Go.ChangeSpec) : _root_.Go.OpenSpec := { _root_.Go.OpenSpec.ofChange s with cond := some uptoSmall }

/-- 'laws.FnExactEvalEx', WHERE WHAT IT READS IS OF BULK AT MOST 1048576: true; the input reads as it did. -/
def fnExactEvalExUptoRow : OpenClaim := { program := "ytcmkkoggdcjceaa", sum := "8e0d3f7e4c88c710959e77a7f9ccf27625d82b37390c732c5be8cf5b5c6f5709", func := "loop.example/g00159/laws.FnExactEvalEx", spec := "fnExactEvalEx", unfollowed := true, recurses := true, loops := true, apart := false, narrowed := true }
def FnExactEvalExUptoSaid : Prop := fnExactEvalExUptoRow.holds Try.pinned (OpenSpec.upto fnExactEvalExSpec)

/-- 'laws.FnExactEvalAig', WHERE WHAT IT READS IS OF BULK AT MOST 1048576: true; the input reads as it did. -/
def fnExactEvalAigUptoRow : OpenClaim := { program := "ytcmkkoggdcjceaa", sum := "8e0d3f7e4c88c710959e77a7f9ccf27625d82b37390c732c5be8cf5b5c6f5709", func := "loop.example/g00159/laws.FnExactEvalAig", spec := "fnExactEvalAig", unfollowed := true, recurses := true, apart := false, narrowed := true }
def FnExactEvalAigUptoSaid : Prop := fnExactEvalAigUptoRow.holds Try.pinned (OpenSpec.upto fnExactEvalAigSpec)

/-- 'laws.FnExactAtMostEx', WHERE WHAT IT READS IS OF BULK AT MOST 1048576: true; the input reads as it did. -/
def fnExactAtMostExUptoRow : OpenClaim := { program := "ytcmkkoggdcjceaa", sum := "8e0d3f7e4c88c710959e77a7f9ccf27625d82b37390c732c5be8cf5b5c6f5709", func := "loop.example/g00159/laws.FnExactAtMostEx", spec := "fnExactAtMostEx", unfollowed := true, recurses := true, loops := true, apart := false, narrowed := true }
def FnExactAtMostExUptoSaid : Prop := fnExactAtMostExUptoRow.holds Try.pinned (OpenSpec.upto fnExactAtMostExSpec)

/-- 'laws.FnExactEqualEx', WHERE WHAT IT READS IS OF BULK AT MOST 1048576: true; the input reads as it did. -/
def fnExactEqualExUptoRow : OpenClaim := { program := "ytcmkkoggdcjceaa", sum := "8e0d3f7e4c88c710959e77a7f9ccf27625d82b37390c732c5be8cf5b5c6f5709", func := "loop.example/g00159/laws.FnExactEqualEx", spec := "fnExactEqualEx", unfollowed := true, recurses := true, loops := true, apart := false, narrowed := true }
def FnExactEqualExUptoSaid : Prop := fnExactEqualExUptoRow.holds Try.pinned (OpenSpec.upto fnExactEqualExSpec)

/-- 'laws.FnExactLessEx', WHERE WHAT IT READS IS OF BULK AT MOST 1048576: true; the input reads as it did. -/
def fnExactLessExUptoRow : OpenClaim := { program := "ytcmkkoggdcjceaa", sum := "8e0d3f7e4c88c710959e77a7f9ccf27625d82b37390c732c5be8cf5b5c6f5709", func := "loop.example/g00159/laws.FnExactLessEx", spec := "fnExactLessEx", unfollowed := true, recurses := true, loops := true, apart := false, narrowed := true }
def FnExactLessExUptoSaid : Prop := fnExactLessExUptoRow.holds Try.pinned (OpenSpec.upto fnExactLessExSpec)

/-- 'laws.FnExactTseitin', WHERE WHAT IT READS IS OF BULK AT MOST 1048576: true; the input reads as it did. -/
def fnExactTseitinUptoRow : OpenClaim := { program := "ytcmkkoggdcjceaa", sum := "8e0d3f7e4c88c710959e77a7f9ccf27625d82b37390c732c5be8cf5b5c6f5709", func := "loop.example/g00159/laws.FnExactTseitin", spec := "fnExactTseitin", unfollowed := true, recurses := true, apart := false, narrowed := true }
def FnExactTseitinUptoSaid : Prop := fnExactTseitinUptoRow.holds Try.pinned (OpenSpec.upto fnExactTseitinSpec)

/-- 'laws.FnExactWordBits', WHERE WHAT IT READS IS OF BULK AT MOST 1048576: true; the input reads as it did. -/
def fnExactWordBitsUptoRow : OpenClaim := { program := "ytcmkkoggdcjceaa", sum := "8e0d3f7e4c88c710959e77a7f9ccf27625d82b37390c732c5be8cf5b5c6f5709", func := "loop.example/g00159/laws.FnExactWordBits", spec := "fnExactWordBits", unfollowed := true, recurses := true, loops := true, apart := false, narrowed := true }
def FnExactWordBitsUptoSaid : Prop := fnExactWordBitsUptoRow.holds Try.pinned (OpenSpec.upto fnExactWordBitsSpec)

/-- 'laws.FnExactBuildAig', WHERE WHAT IT READS IS OF BULK AT MOST 1048576: true; the input reads as it did. -/
def fnExactBuildAigUptoRow : OpenClaim := { program := "ytcmkkoggdcjceaa", sum := "8e0d3f7e4c88c710959e77a7f9ccf27625d82b37390c732c5be8cf5b5c6f5709", func := "loop.example/g00159/laws.FnExactBuildAig", spec := "fnExactBuildAig", unfollowed := true, recurses := true, loops := true, apart := false, narrowed := true }
def FnExactBuildAigUptoSaid : Prop := fnExactBuildAigUptoRow.holds Try.pinned (OpenSpec.upto fnExactBuildAigSpec)

end Rows
end Go.Proofs.Ytcmkkoggdcjceaa
