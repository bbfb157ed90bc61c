/- FnExactRefutation: for every input the law returns true. The texts that this program's session printed and proved for it, those that the proof uses, laid together. Conditions: the form's own reach alone. -/
import Derived.Test.YtelfahcjeldliaaQFnExactRefutation2
import Derived.Test.YtelfahcjeldliaaRows
import Derived.WalkKit
import Derived.ProofKit
import Derived.OpenShut
import Derived.ShutString
import Derived.ChangeOld
import Derived.Below
import Derived.SizedLaws
section
set_option linter.unusedVariables false
set_option linter.unusedSimpArgs false
namespace Go.Proofs.Ytelfahcjeldliaa.fnExactRefutation
open Go.ChangeShapes Go.WideShapes Go.ChangeAt Go.RowKit Go.Proofs.Ytelfahcjeldliaa.PFnExactRefutation Go.Proofs.YtelfahcjeldliaaW.PrintWords
open Go.ChangeMaps (open_string shut_string)
theorem own : ownKnob Try.prog.godebug = none := by kernel_rfl
theorem laidOut : laidOutB Try.prog = true := by kernel_rfl
set_option maxRecDepth 100000 in
theorem lifted (os : Os) (started : os.Started) (H : Type) (enc : TypeId × Value → H) :
  ReturnsInHanded {} Try.checked os 9 .any (Rows.fnExactRefutationSpec.pre6 enc Try.prog Try.f9 Rows.fnExactRefutationRow.domain false) (Rows.fnExactRefutationSpec.post enc Try.prog Try.f9 false true false false) := by
 refine returnsInHanded_of_change_sized (C := Try.checked) own started (by kernel_rfl) Try.func9
  (ChangeSpec.witness6 (enc := enc) (C := Try.checked) false ⟨#[], #[.agg #[.int .i64 0, .slice none 0 0]], []⟩ 8 (by kernel_rfl) (by kernel_rfl) (by kernel_rfl) (by kernel_rfl)) ?_
 intro W base args ds gs before hval0 hW hcnd hsz0 _
 have hsz : (DataW.weightsEach Try.prog (Try.f9.params.toList ++ Rows.fnExactRefutationSpec.plain.varTypes Try.prog) (ds ++ gs)).all (· ≤ reachBytes) = true := hsz0
 have hval : ∀ (j : Nat) t v, Try.f9.params[j]? = some t → args[j]? = some v → Value.okWide Try.prog W .any base t v := hval0
 have hW' := hW
 obtain ⟨p, q, hA0, hV, rfl, hfz, hnd⟩ := hW
 have hA : DataW.TrodAll enc Try.prog W 0 (fun _ => true) true Try.f9.params.toList args.toList ds p := hA0
 rw [Try.params9] at hA hval hsz
 obtain ⟨v0, vs0, d0, ds0, p0, q0, hargs, rfl, rfl, h0, r0⟩ := trodAll_cons hA
 obtain ⟨rfl, rfl, rfl⟩ := trodAll_nil r0
 obtain rfl : args = #[v0] := by cases args; simp_all
 obtain ⟨rfl, rfl⟩ := trodVars_none hV
 obtain ⟨cs0, rfl, z0⟩ := okWide_struct Try.underlying24 (hval 0 24 v0 rfl rfl)
 have k0 := h0
 have lt0 : ∀ x ∈ p0, x.block < W.heap.size := by obtain ⟨m, hm⟩ := k0; exact DataW.trod_lt m _ _ _ hm
 obtain ⟨x0, K0, w0⟩ := Reads.arg (j := 0) (t := 24) (k := Kd.iso (Kd.pair (Kd.int .i64) (Kd.slice 37 (Kd.slice 3 (Kd.int .i64)))) (fun x : (Int) × (List (List Int)) => x)) (wf := fun p : (Int) × (List (List Int)) => Reads.WFI p.1 ∧ ((Reads.WFL 24 (Reads.WFL 8 Reads.WFI)) p.2)) (fun _ => Reads.struct (wf := fun p : (Int) × (List (List Int)) => Reads.WFI p.1 ∧ ((Reads.WFL 24 (Reads.WFL 8 Reads.WFI)) p.2)) (fun x : (Int) × (List (List Int)) => x) (fun p => p) (fun _ => rfl) Try.underlying24 (by kernel_rfl) (fun m _ => (Reads.more rfl (by kernel_rfl) ((Reads.intR Try.underlying3) m) (Reads.last rfl (by kernel_rfl) ((Reads.sliceR (t := 22) (e := 37) Try.underlying22 (by kernel_rfl) (by kernel_rfl) (Reads.sliceR (t := 37) (e := 3) Try.underlying37 (by kernel_rfl) (by kernel_rfl) (Reads.intR Try.underlying3))) m))))) hsz rfl rfl h0
 obtain ⟨_, _, e0, rfl, ⟨A0_1, c0_1, rfl, hc0_1, hr0_1⟩⟩ := K0
 obtain rfl : cs0 = #[.int .i64 x0.1, .slice A0_1 x0.2.length c0_1] := by
  apply Array.toList_inj.1
  exact e0
 clear hA0 hval0 hsz0 hsz
 obtain ⟨k, h⟩ := Pure.FnExactRefutation x0.1 x0.2 (w0.1) (w0.2)
 refine (laws_FnExactRefutation.calls k x0.1 _ _ x0.2 true W hr0_1 hc0_1 h).mono ?_
 rintro e W' ⟨rfl, bel⟩
 exact ⟨_, rfl, _, _, _, [], _, [], hW', trodAll_mk1 (shut_bool Try.underlying4 _), (trodAll_cons_mk (Below.trod laidOut (by kernel_rfl) (of_decide_eq_true (by kernel_rfl)) k0 bel lt0) trodAll_mk0), rfl, bel.frame _, fun h => by cases h⟩
theorem over : Rows.fnExactRefutationRow.holds Try.pinned (OpenSpec.ofChange Rows.fnExactRefutationSpec) :=
 OpenClaim.holds_of_wide 9 Try.f9 rfl rfl rfl rfl rfl rfl rfl ⟨rfl, rfl, rfl, rfl, rfl⟩ rfl rfl rfl rfl rfl (by kernel_rfl) Try.func9 (by kernel_rfl)
  (of_decide_eq_true (by kernel_rfl)) (by unfold Func.isWrapper; first | (rw [if_pos (by decide +kernel)]; kernel_rfl) | (rw [if_neg (by decide +kernel)]; exact ⟨rfl, rfl⟩))
  (fun os started H enc _ => lifted os started H enc)
theorem proved : Rows.FnExactRefutationSaid := over
end Go.Proofs.Ytelfahcjeldliaa.fnExactRefutation
namespace Go.Proofs.Ytelfahcjeldliaa
theorem fnExactRefutation_holds : Rows.FnExactRefutationSaid := fnExactRefutation.proved
end Go.Proofs.Ytelfahcjeldliaa
end
#print axioms Go.Proofs.Ytelfahcjeldliaa.fnExactRefutation_holds
