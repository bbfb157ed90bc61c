/- FnExactEvalAig: for every input the law returns true (the row, out of the pure statement and the walk). Conditions: the form's own reach alone. -/
import Derived.Test.YtcmkkoggdcjceaaRows
import Derived.Test.YtcmkkoggdcjceaaDefFnExactEvalAig
import Derived.Test.YtcmkkoggdcjceaaPureFnExactEvalAig
import Derived.WalkKit
import Derived.ProofKit
import Derived.OpenShut
import Derived.ShutString
import Derived.ChangeOld
import Derived.Below
import Derived.SizedLaws
set_option linter.unusedVariables false
set_option linter.unusedSimpArgs false
namespace Go.Proofs.Ytcmkkoggdcjceaa.fnExactEvalAig
open Go.ChangeShapes Go.WideShapes Go.ChangeAt Go.RowKit Go.Proofs.Ytcmkkoggdcjceaa.PFnExactEvalAig Go.Proofs.YtcmkkoggdcjceaaW.PrintWords
open Go.ChangeMaps (open_string shut_string)
theorem own : ownKnob Try.prog.godebug = none := by kernel_rfl
theorem laidOut : laidOutB Try.prog = true := by kernel_rfl
set_option maxRecDepth 100000 in
theorem lifted (os : Os) (started : os.Started) (H : Type) (enc : TypeId × Value → H) :
    ReturnsInHanded {} Try.checked os 4 .any (Rows.fnExactEvalAigSpec.pre6 enc Try.prog Try.f4 Rows.fnExactEvalAigRow.domain false) (Rows.fnExactEvalAigSpec.post enc Try.prog Try.f4 false true false false) := by
  refine returnsInHanded_of_change_sized (C := Try.checked) own started (by kernel_rfl) Try.func4
    (ChangeSpec.witness6 (enc := enc) (C := Try.checked) false ⟨#[], #[.agg #[.int .i64 0, .slice none 0 0], .slice none 0 0, .slice none 0 0], []⟩ 8 (by kernel_rfl) (by kernel_rfl) (by kernel_rfl) (by kernel_rfl)) ?_
  intro W base args ds gs before hval0 hW hcnd hsz0 _
  have hsz : (DataW.weightsEach Try.prog (Try.f4.params.toList ++ Rows.fnExactEvalAigSpec.plain.varTypes Try.prog) (ds ++ gs)).all (· ≤ reachBytes) = true := hsz0
  have hval : ∀ (j : Nat) t v, Try.f4.params[j]? = some t → args[j]? = some v → Value.okWide Try.prog W .any base t v := hval0
  have hW' := hW
  obtain ⟨p, q, hA0, hV, rfl, hfz, hnd⟩ := hW
  have hA : DataW.TrodAll enc Try.prog W 0 (fun _ => true) true Try.f4.params.toList args.toList ds p := hA0
  rw [Try.params4] at hA hval hsz
  obtain ⟨v0, vs0, d0, ds0, p0, q0, hargs, rfl, rfl, h0, r0⟩ := trodAll_cons hA
  obtain ⟨v1, vs1, d1, ds1, p1, q1, rfl, rfl, rfl, h1, r1⟩ := trodAll_cons r0
  obtain ⟨v2, vs2, d2, ds2, p2, q2, rfl, rfl, rfl, h2, r2⟩ := trodAll_cons r1
  obtain ⟨rfl, rfl, rfl⟩ := trodAll_nil r2
  obtain rfl : args = #[v0, v1, v2] := by cases args; simp_all
  obtain ⟨rfl, rfl⟩ := trodVars_none hV
  obtain ⟨cs0, rfl, z0⟩ := okWide_struct Try.underlying39 (hval 0 39 v0 rfl rfl)
  have k0 := h0
  have lt0 : ∀ x ∈ p0, x.block < W.heap.size := by obtain ⟨m, hm⟩ := k0; exact DataW.trod_lt m _ _ _ hm
  obtain ⟨x0, K0, w0⟩ := Reads.arg (j := 0) (t := 39) (k := Kd.iso (Kd.pair (Kd.int .i64) (Kd.slice 133 k133)) (fun x : (Int) × (List (S133)) => x)) (wf := fun p : (Int) × (List (S133)) => Reads.WFI p.1 ∧ ((Reads.WFL 16 wf133) p.2)) (fun _ => Reads.struct (wf := fun p : (Int) × (List (S133)) => Reads.WFI p.1 ∧ ((Reads.WFL 16 wf133) p.2)) (fun x : (Int) × (List (S133)) => x) (fun p => p) (fun _ => rfl) Try.underlying39 (by kernel_rfl) (fun m _ => (Reads.more rfl (by kernel_rfl) ((Reads.intR Try.underlying3) m) (Reads.last rfl (by kernel_rfl) ((Reads.sliceR (t := 37) (e := 133) Try.underlying37 (by kernel_rfl) (by kernel_rfl) rk133) m))))) hsz rfl rfl h0
  obtain ⟨_, _, e0, rfl, ⟨A0_1, c0_1, rfl, hc0_1, hr0_1⟩⟩ := K0
  obtain rfl : cs0 = #[.int .i64 x0.1, .slice A0_1 x0.2.length c0_1] := by
    apply Array.toList_inj.1
    exact e0
  obtain ⟨A1, n1, c1, rfl⟩ := okWide_slice Try.underlying40 (hval 1 40 v1 rfl rfl)
  have k1 := h1
  have lt1 : ∀ x ∈ p1, x.block < W.heap.size := by obtain ⟨m, hm⟩ := k1; exact DataW.trod_lt m _ _ _ hm
  obtain ⟨l1, K1, w1⟩ := Reads.arg (j := 1) (t := 40) (k := (Kd.slice 3 (Kd.int .i64))) (wf := (Reads.WFL 8 Reads.WFI)) (Reads.sliceR (t := 40) (e := 3) Try.underlying40 (by kernel_rfl) (by kernel_rfl) (Reads.intR Try.underlying3)) hsz rfl rfl h1
  obtain ⟨B1, C1, e1, hc1, hr1⟩ := K1
  simp only [Value.cells, List.cons.injEq, Value.slice.injEq, and_true] at e1
  obtain ⟨rfl, rfl, rfl⟩ := e1
  obtain ⟨A2, n2, c2, rfl⟩ := okWide_slice Try.underlying25 (hval 2 25 v2 rfl rfl)
  have k2 := h2
  have lt2 : ∀ x ∈ p2, x.block < W.heap.size := by obtain ⟨m, hm⟩ := k2; exact DataW.trod_lt m _ _ _ hm
  obtain ⟨l2, K2, w2⟩ := Reads.arg (j := 2) (t := 25) (k := (Kd.slice 4 Kd.bool)) (wf := (Reads.WFL 1 (fun _ : Bool => True))) (Reads.sliceR (t := 25) (e := 4) Try.underlying25 (by kernel_rfl) (by kernel_rfl) (Reads.boolR Try.underlying4)) hsz rfl rfl h2
  obtain ⟨B2, C2, e2, hc2, hr2⟩ := K2
  simp only [Value.cells, List.cons.injEq, Value.slice.injEq, and_true] at e2
  obtain ⟨rfl, rfl, rfl⟩ := e2
  clear hA0 hval0 hsz0 hsz
  obtain ⟨k, h⟩ := Pure.FnExactEvalAig x0.1 x0.2 l1 l2 (w0.1) (w0.2) w1 w2
  refine (laws_FnExactEvalAig.calls k x0.1 _ _ x0.2 _ _ l1 _ _ l2 true W hr0_1 hc0_1 hr1 hc1 hr2 hc2 h).mono ?_
  rintro e W' ⟨rfl, bel⟩
  exact ⟨_, rfl, _, _, _, [], _, [], hW', trodAll_mk1 (shut_bool Try.underlying4 _), (trodAll_cons_mk (Below.trod laidOut (by kernel_rfl) (of_decide_eq_true (by kernel_rfl)) k0 bel lt0) (trodAll_cons_mk (Below.trod laidOut (by kernel_rfl) (of_decide_eq_true (by kernel_rfl)) k1 bel lt1) (trodAll_cons_mk (Below.trod laidOut (by kernel_rfl) (of_decide_eq_true (by kernel_rfl)) k2 bel lt2) trodAll_mk0))), rfl, bel.frame _, fun h => by cases h⟩
theorem over : Rows.fnExactEvalAigRow.holds Try.pinned (OpenSpec.ofChange Rows.fnExactEvalAigSpec) :=
  OpenClaim.holds_of_wide 4 Try.f4 rfl rfl rfl rfl rfl rfl rfl ⟨rfl, rfl, rfl, rfl, rfl⟩ rfl rfl rfl rfl rfl (by kernel_rfl) Try.func4 (by kernel_rfl)
    (of_decide_eq_true (by kernel_rfl)) (by unfold Func.isWrapper; first | (rw [if_pos (by decide +kernel)]; kernel_rfl) | (rw [if_neg (by decide +kernel)]; exact ⟨rfl, rfl⟩))
    (fun os started H enc _ => lifted os started H enc)
theorem proved : Rows.FnExactEvalAigSaid := over
#print axioms proved
end Go.Proofs.Ytcmkkoggdcjceaa.fnExactEvalAig
namespace Go.Proofs.Ytcmkkoggdcjceaa
/-- The row, under a short name, for the claim. -/
theorem fnExactEvalAig_holds : Rows.FnExactEvalAigSaid := fnExactEvalAig.proved
end Go.Proofs.Ytcmkkoggdcjceaa
