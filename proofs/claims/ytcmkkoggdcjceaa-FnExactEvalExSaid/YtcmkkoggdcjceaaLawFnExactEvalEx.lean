/- FnExactEvalEx: for every input the law returns true (the row, out of the pure statement and the walk). Conditions: the form's own reach alone. -/
import Derived.Test.YtcmkkoggdcjceaaRows
import Derived.Test.YtcmkkoggdcjceaaDefFnExactEvalEx
import Derived.Test.YtcmkkoggdcjceaaPureFnExactEvalEx
import Derived.WalkKit
import Derived.ProofKit
import Derived.OpenShut
import Derived.ShutString
import Derived.ChangeOld
import Derived.Below
import Derived.SizedLaws
set_option linter.unusedVariables false
set_option linter.unusedSimpArgs false
namespace Go.Proofs.Ytcmkkoggdcjceaa.fnExactEvalEx
open Go.ChangeShapes Go.WideShapes Go.ChangeAt Go.RowKit Go.Proofs.Ytcmkkoggdcjceaa.PFnExactEvalEx Go.Proofs.YtcmkkoggdcjceaaW.PrintWords
open Go.ChangeMaps (open_string shut_string)
theorem own : ownKnob Try.prog.godebug = none := by kernel_rfl
theorem laidOut : laidOutB Try.prog = true := by kernel_rfl
set_option maxRecDepth 100000 in
theorem lifted (os : Os) (started : os.Started) (H : Type) (enc : TypeId × Value → H) :
    ReturnsInHanded {} Try.checked os 3 .any (Rows.fnExactEvalExSpec.pre6 enc Try.prog Try.f3 Rows.fnExactEvalExRow.domain false) (Rows.fnExactEvalExSpec.post enc Try.prog Try.f3 false true false false) := by
  refine returnsInHanded_of_change_sized (C := Try.checked) own started (by kernel_rfl) Try.func3
    (ChangeSpec.witness6 (enc := enc) (C := Try.checked) false ⟨#[], #[.agg #[.int .i64 0, .int .i64 0, .slice none 0 0], .slice none 0 0], []⟩ 8 (by kernel_rfl) (by kernel_rfl) (by kernel_rfl) (by kernel_rfl)) ?_
  intro W base args ds gs before hval0 hW hcnd hsz0 _
  have hsz : (DataW.weightsEach Try.prog (Try.f3.params.toList ++ Rows.fnExactEvalExSpec.plain.varTypes Try.prog) (ds ++ gs)).all (· ≤ reachBytes) = true := hsz0
  have hval : ∀ (j : Nat) t v, Try.f3.params[j]? = some t → args[j]? = some v → Value.okWide Try.prog W .any base t v := hval0
  have hW' := hW
  obtain ⟨p, q, hA0, hV, rfl, hfz, hnd⟩ := hW
  have hA : DataW.TrodAll enc Try.prog W 0 (fun _ => true) true Try.f3.params.toList args.toList ds p := hA0
  rw [Try.params3] at hA hval hsz
  obtain ⟨v0, vs0, d0, ds0, p0, q0, hargs, rfl, rfl, h0, r0⟩ := trodAll_cons hA
  obtain ⟨v1, vs1, d1, ds1, p1, q1, rfl, rfl, rfl, h1, r1⟩ := trodAll_cons r0
  obtain ⟨rfl, rfl, rfl⟩ := trodAll_nil r1
  obtain rfl : args = #[v0, v1] := by cases args; simp_all
  obtain ⟨rfl, rfl⟩ := trodVars_none hV
  obtain ⟨cs0, rfl, z0⟩ := okWide_struct Try.underlying24 (hval 0 24 v0 rfl rfl)
  have k0 := h0
  have lt0 : ∀ x ∈ p0, x.block < W.heap.size := by obtain ⟨m, hm⟩ := k0; exact DataW.trod_lt m _ _ _ hm
  obtain ⟨x0, K0, w0⟩ := Reads.arg (j := 0) (t := 24) (k := Kd.iso (Kd.pair (Kd.int .i64) (Kd.pair (Kd.int .i64) (Kd.slice 24 k24))) (fun x : (Int) × (Int) × (List (S24)) => x)) (wf := fun p : (Int) × (Int) × (List (S24)) => Reads.WFI p.1 ∧ (Reads.WFI p.2.1 ∧ ((Reads.WFL 40 wf24) p.2.2))) (fun _ => Reads.struct (wf := fun p : (Int) × (Int) × (List (S24)) => Reads.WFI p.1 ∧ (Reads.WFI p.2.1 ∧ ((Reads.WFL 40 wf24) p.2.2))) (fun x : (Int) × (Int) × (List (S24)) => x) (fun p => p) (fun _ => rfl) Try.underlying24 (by kernel_rfl) (fun m _ => (Reads.more rfl (by kernel_rfl) ((Reads.intR Try.underlying3) m) (Reads.more rfl (by kernel_rfl) ((Reads.intR Try.underlying3) m) (Reads.last rfl (by kernel_rfl) ((Reads.sliceR (t := 22) (e := 24) Try.underlying22 (by kernel_rfl) (by kernel_rfl) rk24) m)))))) hsz rfl rfl h0
  obtain ⟨_, _, e0, rfl, ⟨_, _, rfl, rfl, ⟨A0_2, c0_2, rfl, hc0_2, hr0_2⟩⟩⟩ := K0
  obtain rfl : cs0 = #[.int .i64 x0.1, .int .i64 x0.2.1, .slice A0_2 x0.2.2.length c0_2] := by
    apply Array.toList_inj.1
    exact e0
  obtain ⟨A1, n1, c1, rfl⟩ := okWide_slice Try.underlying25 (hval 1 25 v1 rfl rfl)
  have k1 := h1
  have lt1 : ∀ x ∈ p1, x.block < W.heap.size := by obtain ⟨m, hm⟩ := k1; exact DataW.trod_lt m _ _ _ hm
  obtain ⟨l1, K1, w1⟩ := Reads.arg (j := 1) (t := 25) (k := (Kd.slice 4 Kd.bool)) (wf := (Reads.WFL 1 (fun _ : Bool => True))) (Reads.sliceR (t := 25) (e := 4) Try.underlying25 (by kernel_rfl) (by kernel_rfl) (Reads.boolR Try.underlying4)) hsz rfl rfl h1
  obtain ⟨B1, C1, e1, hc1, hr1⟩ := K1
  simp only [Value.cells, List.cons.injEq, Value.slice.injEq, and_true] at e1
  obtain ⟨rfl, rfl, rfl⟩ := e1
  clear hA0 hval0 hsz0 hsz
  obtain ⟨k, h⟩ := Pure.FnExactEvalEx x0.1 x0.2.1 x0.2.2 l1 (w0.1) (w0.2.1) (w0.2.2) w1
  refine (laws_FnExactEvalEx.calls k x0.1 x0.2.1 _ _ x0.2.2 _ _ l1 true W hr0_2 hc0_2 hr1 hc1 h).mono ?_
  rintro e W' ⟨rfl, bel⟩
  exact ⟨_, rfl, _, _, _, [], _, [], hW', trodAll_mk1 (shut_bool Try.underlying4 _), (trodAll_cons_mk (Below.trod laidOut (by kernel_rfl) (of_decide_eq_true (by kernel_rfl)) k0 bel lt0) (trodAll_cons_mk (Below.trod laidOut (by kernel_rfl) (of_decide_eq_true (by kernel_rfl)) k1 bel lt1) trodAll_mk0)), rfl, bel.frame _, fun h => by cases h⟩
theorem over : Rows.fnExactEvalExRow.holds Try.pinned (OpenSpec.ofChange Rows.fnExactEvalExSpec) :=
  OpenClaim.holds_of_wide 3 Try.f3 rfl rfl rfl rfl rfl rfl rfl ⟨rfl, rfl, rfl, rfl, rfl⟩ rfl rfl rfl rfl rfl (by kernel_rfl) Try.func3 (by kernel_rfl)
    (of_decide_eq_true (by kernel_rfl)) (by unfold Func.isWrapper; first | (rw [if_pos (by decide +kernel)]; kernel_rfl) | (rw [if_neg (by decide +kernel)]; exact ⟨rfl, rfl⟩))
    (fun os started H enc _ => lifted os started H enc)
theorem proved : Rows.FnExactEvalExSaid := over
#print axioms proved
end Go.Proofs.Ytcmkkoggdcjceaa.fnExactEvalEx
namespace Go.Proofs.Ytcmkkoggdcjceaa
/-- The row, under a short name, for the claim. -/
theorem fnExactEvalEx_holds : Rows.FnExactEvalExSaid := fnExactEvalEx.proved
end Go.Proofs.Ytcmkkoggdcjceaa
