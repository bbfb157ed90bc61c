/- FnExactWordValue: for every input the law returns true (the row, out of the pure statement and the walk). Conditions: the form's own reach alone. -/
import Derived.Test.YtdmeonkkbihbhaaRows
import Derived.Test.YtdmeonkkbihbhaaDefFnExactWordValue
import Derived.Test.YtdmeonkkbihbhaaPureFnExactWordValue
import Derived.WalkKit
import Derived.ProofKit
import Derived.OpenShut
import Derived.ShutString
import Derived.ChangeOld
import Derived.Below
import Derived.SizedLaws
set_option linter.unusedVariables false
set_option linter.unusedSimpArgs false
namespace Go.Proofs.Ytdmeonkkbihbhaa.fnExactWordValue
open Go.ChangeShapes Go.WideShapes Go.ChangeAt Go.RowKit Go.Proofs.Ytdmeonkkbihbhaa.PFnExactWordValue Go.Proofs.YtdmeonkkbihbhaaW.PrintWords
open Go.ChangeMaps (open_string shut_string)
theorem own : ownKnob Try.prog.godebug = none := by kernel_rfl
theorem laidOut : laidOutB Try.prog = true := by kernel_rfl
set_option maxRecDepth 100000 in
theorem lifted (os : Os) (started : os.Started) (H : Type) (enc : TypeId × Value → H) :
    ReturnsInHanded {} Try.checked os 11 .any (Rows.fnExactWordValueSpec.pre6 enc Try.prog Try.f11 Rows.fnExactWordValueRow.domain false) (Rows.fnExactWordValueSpec.post enc Try.prog Try.f11 false true false false) := by
  refine returnsInHanded_of_change_sized (C := Try.checked) own started (by kernel_rfl) Try.func11
    (ChangeSpec.witness6 (enc := enc) (C := Try.checked) false ⟨#[], #[.agg #[.int .i64 0, .int .i64 0, .slice none 0 0], .int .i64 0, .slice none 0 0], []⟩ 8 (by kernel_rfl) (by kernel_rfl) (by kernel_rfl) (by kernel_rfl)) ?_
  intro W base args ds gs before hval0 hW hcnd hsz0 _
  have hsz : (DataW.weightsEach Try.prog (Try.f11.params.toList ++ Rows.fnExactWordValueSpec.plain.varTypes Try.prog) (ds ++ gs)).all (· ≤ reachBytes) = true := hsz0
  have hval : ∀ (j : Nat) t v, Try.f11.params[j]? = some t → args[j]? = some v → Value.okWide Try.prog W .any base t v := hval0
  have hW' := hW
  obtain ⟨p, q, hA0, hV, rfl, hfz, hnd⟩ := hW
  have hA : DataW.TrodAll enc Try.prog W 0 (fun _ => true) true Try.f11.params.toList args.toList ds p := hA0
  rw [Try.params11] at hA hval hsz
  obtain ⟨v0, vs0, d0, ds0, p0, q0, hargs, rfl, rfl, h0, r0⟩ := trodAll_cons hA
  obtain ⟨v1, vs1, d1, ds1, p1, q1, rfl, rfl, rfl, h1, r1⟩ := trodAll_cons r0
  obtain ⟨v2, vs2, d2, ds2, p2, q2, rfl, rfl, rfl, h2, r2⟩ := trodAll_cons r1
  obtain ⟨rfl, rfl, rfl⟩ := trodAll_nil r2
  obtain rfl : args = #[v0, v1, v2] := by cases args; simp_all
  obtain ⟨rfl, rfl⟩ := trodVars_none hV
  obtain ⟨cs0, rfl, z0⟩ := okWide_struct Try.underlying35 (hval 0 35 v0 rfl rfl)
  have k0 := h0
  have lt0 : ∀ x ∈ p0, x.block < W.heap.size := by obtain ⟨m, hm⟩ := k0; exact DataW.trod_lt m _ _ _ hm
  obtain ⟨x0, K0, w0⟩ := Reads.arg (j := 0) (t := 35) (k := Kd.iso (Kd.pair (Kd.int .i64) (Kd.pair (Kd.int .i64) (Kd.slice 35 k35))) (fun x : (Int) × (Int) × (List (S35)) => x)) (wf := fun p : (Int) × (Int) × (List (S35)) => Reads.WFI p.1 ∧ (Reads.WFI p.2.1 ∧ ((Reads.WFL 40 wf35) p.2.2))) (fun _ => Reads.struct (wf := fun p : (Int) × (Int) × (List (S35)) => Reads.WFI p.1 ∧ (Reads.WFI p.2.1 ∧ ((Reads.WFL 40 wf35) p.2.2))) (fun x : (Int) × (Int) × (List (S35)) => x) (fun p => p) (fun _ => rfl) Try.underlying35 (by kernel_rfl) (fun m _ => (Reads.more rfl (by kernel_rfl) ((Reads.intR Try.underlying3) m) (Reads.more rfl (by kernel_rfl) ((Reads.intR Try.underlying3) m) (Reads.last rfl (by kernel_rfl) ((Reads.sliceR (t := 33) (e := 35) Try.underlying33 (by kernel_rfl) (by kernel_rfl) rk35) m)))))) hsz rfl rfl h0
  obtain ⟨_, _, e0, rfl, ⟨_, _, rfl, rfl, ⟨A0_2, c0_2, rfl, hc0_2, hr0_2⟩⟩⟩ := K0
  obtain rfl : cs0 = #[.int .i64 x0.1, .int .i64 x0.2.1, .slice A0_2 x0.2.2.length c0_2] := by
    apply Array.toList_inj.1
    exact e0
  obtain ⟨a1, rfl, rfl, rfl, y1⟩ := open_int Try.underlying3 (hval 1 3 v1 rfl rfl) h1
  have w1 : Reads.WFI a1 := Reads.wf_i64 y1
  obtain ⟨A2, n2, c2, rfl⟩ := okWide_slice Try.underlying92 (hval 2 92 v2 rfl rfl)
  have k2 := h2
  have lt2 : ∀ x ∈ p2, x.block < W.heap.size := by obtain ⟨m, hm⟩ := k2; exact DataW.trod_lt m _ _ _ hm
  obtain ⟨l2, K2, w2⟩ := Reads.arg (j := 2) (t := 92) (k := (Kd.slice 3 (Kd.int .i64))) (wf := (Reads.WFL 8 Reads.WFI)) (Reads.sliceR (t := 92) (e := 3) Try.underlying92 (by kernel_rfl) (by kernel_rfl) (Reads.intR Try.underlying3)) hsz rfl rfl h2
  obtain ⟨B2, C2, e2, hc2, hr2⟩ := K2
  simp only [Value.cells, List.cons.injEq, Value.slice.injEq, and_true] at e2
  obtain ⟨rfl, rfl, rfl⟩ := e2
  clear hA0 hval0 hsz0 hsz
  obtain ⟨k, h⟩ := Pure.FnExactWordValue x0.1 x0.2.1 x0.2.2 a1 l2 (w0.1) (w0.2.1) (w0.2.2) w1 w2
  refine (laws_FnExactWordValue.calls k x0.1 x0.2.1 _ _ x0.2.2 a1 _ _ l2 true W hr0_2 hc0_2 hr2 hc2 h).mono ?_
  rintro e W' ⟨rfl, bel⟩
  exact ⟨_, rfl, _, _, _, [], _, [], hW', trodAll_mk1 (shut_bool Try.underlying4 _), (trodAll_cons_mk (Below.trod laidOut (by kernel_rfl) (of_decide_eq_true (by kernel_rfl)) k0 bel lt0) (trodAll_cons_mk (shut_int Try.underlying3 y1) (trodAll_cons_mk (Below.trod laidOut (by kernel_rfl) (of_decide_eq_true (by kernel_rfl)) k2 bel lt2) trodAll_mk0))), rfl, bel.frame _, fun h => by cases h⟩
theorem over : Rows.fnExactWordValueRow.holds Try.pinned (OpenSpec.ofChange Rows.fnExactWordValueSpec) :=
  OpenClaim.holds_of_wide 11 Try.f11 rfl rfl rfl rfl rfl rfl rfl ⟨rfl, rfl, rfl, rfl, rfl⟩ rfl rfl rfl rfl rfl (by kernel_rfl) Try.func11 (by kernel_rfl)
    (of_decide_eq_true (by kernel_rfl)) (by unfold Func.isWrapper; first | (rw [if_pos (by decide +kernel)]; kernel_rfl) | (rw [if_neg (by decide +kernel)]; exact ⟨rfl, rfl⟩))
    (fun os started H enc _ => lifted os started H enc)
theorem proved : Rows.FnExactWordValueSaid := over
#print axioms proved
end Go.Proofs.Ytdmeonkkbihbhaa.fnExactWordValue
namespace Go.Proofs.Ytdmeonkkbihbhaa
/-- The row, under a short name, for the claim. -/
theorem fnExactWordValue_holds : Rows.FnExactWordValueSaid := fnExactWordValue.proved
end Go.Proofs.Ytdmeonkkbihbhaa
