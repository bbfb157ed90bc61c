/- FnExactRoutesOf: for every input the law returns true. The texts that this program's session printed and proved for it, those that the proof uses, laid together. Conditions: the form's own reach alone. -/
import Derived.Test.YtgibacfgjmdjdaaQFnExactRoutesOf5
import Derived.Test.YtgibacfgjmdjdaaRows
import Derived.WalkKit
import Derived.ProofKit
import Derived.OpenShut
import Derived.ShutString
import Derived.ChangeOld
import Derived.Below
import Derived.SizedLaws
section
set_option linter.unusedVariables false
set_option linter.unusedSimpArgs false
namespace Go.Proofs.Ytgibacfgjmdjdaa.fnExactRoutesOf
open Go.ChangeShapes Go.WideShapes Go.ChangeAt Go.RowKit Go.Proofs.Ytgibacfgjmdjdaa.PFnExactIsStable Go.Proofs.YtgibacfgjmdjdaaW.PrintWords
open Go.ChangeMaps (open_string shut_string)
theorem own : ownKnob Try.prog.godebug = none := by kernel_rfl
theorem laidOut : laidOutB Try.prog = true := by kernel_rfl
set_option maxRecDepth 100000 in
theorem lifted (os : Os) (started : os.Started) (H : Type) (enc : TypeId × Value → H) :
  ReturnsInHanded {} Try.checked os 3 .any (Rows.fnExactRoutesOfSpec.pre6 enc Try.prog Try.f3 Rows.fnExactRoutesOfRow.domain false) (Rows.fnExactRoutesOfSpec.post enc Try.prog Try.f3 false true false false) := by
 refine returnsInHanded_of_change_sized (C := Try.checked) own started (by kernel_rfl) Try.func3
  (ChangeSpec.witness6 (enc := enc) (C := Try.checked) false ⟨#[], #[.agg #[.slice none 0 0, .slice none 0 0, .slice none 0 0, .slice none 0 0, .slice none 0 0, .slice none 0 0], .slice none 0 0, .slice none 0 0, .slice none 0 0], []⟩ 8 (by kernel_rfl) (by kernel_rfl) (by kernel_rfl) (by kernel_rfl)) ?_
 intro W base args ds gs before hval0 hW hcnd hsz0 _
 have hsz : (DataW.weightsEach Try.prog (Try.f3.params.toList ++ Rows.fnExactRoutesOfSpec.plain.varTypes Try.prog) (ds ++ gs)).all (· ≤ reachBytes) = true := hsz0
 have hval : ∀ (j : Nat) t v, Try.f3.params[j]? = some t → args[j]? = some v → Value.okWide Try.prog W .any base t v := hval0
 have hW' := hW
 obtain ⟨p, q, hA0, hV, rfl, hfz, hnd⟩ := hW
 have hA : DataW.TrodAll enc Try.prog W 0 (fun _ => true) true Try.f3.params.toList args.toList ds p := hA0
 rw [Try.params3] at hA hval hsz
 obtain ⟨v0, vs0, d0, ds0, p0, q0, hargs, rfl, rfl, h0, r0⟩ := trodAll_cons hA
 obtain ⟨v1, vs1, d1, ds1, p1, q1, rfl, rfl, rfl, h1, r1⟩ := trodAll_cons r0
 obtain ⟨v2, vs2, d2, ds2, p2, q2, rfl, rfl, rfl, h2, r2⟩ := trodAll_cons r1
 obtain ⟨v3, vs3, d3, ds3, p3, q3, rfl, rfl, rfl, h3, r3⟩ := trodAll_cons r2
 obtain ⟨rfl, rfl, rfl⟩ := trodAll_nil r3
 obtain rfl : args = #[v0, v1, v2, v3] := by cases args; simp_all
 obtain ⟨rfl, rfl⟩ := trodVars_none hV
 obtain ⟨cs0, rfl, z0⟩ := okWide_struct Try.underlying28 (hval 0 28 v0 rfl rfl)
 have k0 := h0
 have lt0 : ∀ x ∈ p0, x.block < W.heap.size := by obtain ⟨m, hm⟩ := k0; exact DataW.trod_lt m _ _ _ hm
 obtain ⟨x0, K0, w0⟩ := Reads.arg (j := 0) (t := 28) (k := Kd.iso (Kd.pair (Kd.slice 9 Kd.string) (Kd.pair (Kd.slice 107 k107) (Kd.pair (Kd.slice 3 (Kd.int .i64)) (Kd.pair (Kd.slice 3 (Kd.int .i64)) (Kd.pair (Kd.slice 109 k109) (Kd.slice 111 k111)))))) (fun x : (List ByteArray) × (List (S107)) × (List Int) × (List Int) × (List (S109)) × (List (S111)) => x)) (wf := fun p : (List ByteArray) × (List (S107)) × (List Int) × (List Int) × (List (S109)) × (List (S111)) => (Reads.WFL 16 Reads.WFS) p.1 ∧ ((Reads.WFL 24 wf107) p.2.1 ∧ ((Reads.WFL 8 Reads.WFI) p.2.2.1 ∧ ((Reads.WFL 8 Reads.WFI) p.2.2.2.1 ∧ ((Reads.WFL 40 wf109) p.2.2.2.2.1 ∧ ((Reads.WFL 32 wf111) p.2.2.2.2.2)))))) (fun _ => Reads.struct (wf := fun p : (List ByteArray) × (List (S107)) × (List Int) × (List Int) × (List (S109)) × (List (S111)) => (Reads.WFL 16 Reads.WFS) p.1 ∧ ((Reads.WFL 24 wf107) p.2.1 ∧ ((Reads.WFL 8 Reads.WFI) p.2.2.1 ∧ ((Reads.WFL 8 Reads.WFI) p.2.2.2.1 ∧ ((Reads.WFL 40 wf109) p.2.2.2.2.1 ∧ ((Reads.WFL 32 wf111) p.2.2.2.2.2)))))) (fun x : (List ByteArray) × (List (S107)) × (List Int) × (List Int) × (List (S109)) × (List (S111)) => x) (fun p => p) (fun _ => rfl) Try.underlying28 (by kernel_rfl) (fun m _ => (Reads.more rfl (by kernel_rfl) ((Reads.sliceR (t := 22) (e := 9) Try.underlying22 (by kernel_rfl) (by kernel_rfl) (Reads.stringR Try.underlying9)) m) (Reads.more rfl (by kernel_rfl) ((Reads.sliceR (t := 23) (e := 107) Try.underlying23 (by kernel_rfl) (by kernel_rfl) rk107) m) (Reads.more rfl (by kernel_rfl) ((Reads.sliceR (t := 24) (e := 3) Try.underlying24 (by kernel_rfl) (by kernel_rfl) (Reads.intR Try.underlying3)) m) (Reads.more rfl (by kernel_rfl) ((Reads.sliceR (t := 24) (e := 3) Try.underlying24 (by kernel_rfl) (by kernel_rfl) (Reads.intR Try.underlying3)) m) (Reads.more rfl (by kernel_rfl) ((Reads.sliceR (t := 25) (e := 109) Try.underlying25 (by kernel_rfl) (by kernel_rfl) rk109) m) (Reads.last rfl (by kernel_rfl) ((Reads.sliceR (t := 26) (e := 111) Try.underlying26 (by kernel_rfl) (by kernel_rfl) rk111) m))))))))) hsz rfl rfl h0
 obtain ⟨_, _, e0, ⟨A0_0, c0_0, rfl, hc0_0, hr0_0⟩, ⟨_, _, rfl, ⟨A0_1, c0_1, rfl, hc0_1, hr0_1⟩, ⟨_, _, rfl, ⟨A0_2, c0_2, rfl, hc0_2, hr0_2⟩, ⟨_, _, rfl, ⟨A0_3, c0_3, rfl, hc0_3, hr0_3⟩, ⟨_, _, rfl, ⟨A0_4, c0_4, rfl, hc0_4, hr0_4⟩, ⟨A0_5, c0_5, rfl, hc0_5, hr0_5⟩⟩⟩⟩⟩⟩ := K0
 obtain rfl : cs0 = #[.slice A0_0 x0.1.length c0_0, .slice A0_1 x0.2.1.length c0_1, .slice A0_2 x0.2.2.1.length c0_2, .slice A0_3 x0.2.2.2.1.length c0_3, .slice A0_4 x0.2.2.2.2.1.length c0_4, .slice A0_5 x0.2.2.2.2.2.length c0_5] := by
  apply Array.toList_inj.1
  exact e0
 obtain ⟨A1, n1, c1, rfl⟩ := okWide_slice Try.underlying24 (hval 1 24 v1 rfl rfl)
 have k1 := h1
 have lt1 : ∀ x ∈ p1, x.block < W.heap.size := by obtain ⟨m, hm⟩ := k1; exact DataW.trod_lt m _ _ _ hm
 obtain ⟨l1, K1, w1⟩ := Reads.arg (j := 1) (t := 24) (k := (Kd.slice 3 (Kd.int .i64))) (wf := (Reads.WFL 8 Reads.WFI)) (Reads.sliceR (t := 24) (e := 3) Try.underlying24 (by kernel_rfl) (by kernel_rfl) (Reads.intR Try.underlying3)) hsz rfl rfl h1
 obtain ⟨B1, C1, e1, hc1, hr1⟩ := K1
 simp only [Value.cells, List.cons.injEq, Value.slice.injEq, and_true] at e1
 obtain ⟨rfl, rfl, rfl⟩ := e1
 obtain ⟨A2, n2, c2, rfl⟩ := okWide_slice Try.underlying29 (hval 2 29 v2 rfl rfl)
 have k2 := h2
 have lt2 : ∀ x ∈ p2, x.block < W.heap.size := by obtain ⟨m, hm⟩ := k2; exact DataW.trod_lt m _ _ _ hm
 obtain ⟨l2, K2, w2⟩ := Reads.arg (j := 2) (t := 29) (k := (Kd.slice 4 Kd.bool)) (wf := (Reads.WFL 1 (fun _ : Bool => True))) (Reads.sliceR (t := 29) (e := 4) Try.underlying29 (by kernel_rfl) (by kernel_rfl) (Reads.boolR Try.underlying4)) hsz rfl rfl h2
 obtain ⟨B2, C2, e2, hc2, hr2⟩ := K2
 simp only [Value.cells, List.cons.injEq, Value.slice.injEq, and_true] at e2
 obtain ⟨rfl, rfl, rfl⟩ := e2
 obtain ⟨A3, n3, c3, rfl⟩ := okWide_slice Try.underlying24 (hval 3 24 v3 rfl rfl)
 have k3 := h3
 have lt3 : ∀ x ∈ p3, x.block < W.heap.size := by obtain ⟨m, hm⟩ := k3; exact DataW.trod_lt m _ _ _ hm
 obtain ⟨l3, K3, w3⟩ := Reads.arg (j := 3) (t := 24) (k := (Kd.slice 3 (Kd.int .i64))) (wf := (Reads.WFL 8 Reads.WFI)) (Reads.sliceR (t := 24) (e := 3) Try.underlying24 (by kernel_rfl) (by kernel_rfl) (Reads.intR Try.underlying3)) hsz rfl rfl h3
 obtain ⟨B3, C3, e3, hc3, hr3⟩ := K3
 simp only [Value.cells, List.cons.injEq, Value.slice.injEq, and_true] at e3
 obtain ⟨rfl, rfl, rfl⟩ := e3
 clear hA0 hval0 hsz0 hsz
 obtain ⟨k, h⟩ := Pure.FnExactRoutesOf x0.1 x0.2.1 x0.2.2.1 x0.2.2.2.1 x0.2.2.2.2.1 x0.2.2.2.2.2 l1 l2 l3 (w0.1) (w0.2.1) (w0.2.2.1) (w0.2.2.2.1) (w0.2.2.2.2.1) (w0.2.2.2.2.2) w1 w2 w3
 refine (laws_FnExactRoutesOf.calls k _ _ x0.1 _ _ x0.2.1 _ _ x0.2.2.1 _ _ x0.2.2.2.1 _ _ x0.2.2.2.2.1 _ _ x0.2.2.2.2.2 _ _ l1 _ _ l2 _ _ l3 true W hr0_0 hc0_0 hr0_1 hc0_1 hr0_2 hc0_2 hr0_3 hc0_3 hr0_4 hc0_4 hr0_5 hc0_5 hr1 hc1 hr2 hc2 hr3 hc3 h).mono ?_
 rintro e W' ⟨rfl, bel⟩
 exact ⟨_, rfl, _, _, _, [], _, [], hW', trodAll_mk1 (shut_bool Try.underlying4 _), (trodAll_cons_mk (Below.trod laidOut (by kernel_rfl) (of_decide_eq_true (by kernel_rfl)) k0 bel lt0) (trodAll_cons_mk (Below.trod laidOut (by kernel_rfl) (of_decide_eq_true (by kernel_rfl)) k1 bel lt1) (trodAll_cons_mk (Below.trod laidOut (by kernel_rfl) (of_decide_eq_true (by kernel_rfl)) k2 bel lt2) (trodAll_cons_mk (Below.trod laidOut (by kernel_rfl) (of_decide_eq_true (by kernel_rfl)) k3 bel lt3) trodAll_mk0)))), rfl, bel.frame _, fun h => by cases h⟩
theorem over : Rows.fnExactRoutesOfRow.holds Try.pinned (OpenSpec.ofChange Rows.fnExactRoutesOfSpec) :=
 OpenClaim.holds_of_wide 3 Try.f3 rfl rfl rfl rfl rfl rfl rfl ⟨rfl, rfl, rfl, rfl, rfl⟩ rfl rfl rfl rfl rfl (by kernel_rfl) Try.func3 (by kernel_rfl)
  (of_decide_eq_true (by kernel_rfl)) (by unfold Func.isWrapper; first | (rw [if_pos (by decide +kernel)]; kernel_rfl) | (rw [if_neg (by decide +kernel)]; exact ⟨rfl, rfl⟩))
  (fun os started H enc _ => lifted os started H enc)
theorem proved : Rows.FnExactRoutesOfSaid := over
end Go.Proofs.Ytgibacfgjmdjdaa.fnExactRoutesOf
namespace Go.Proofs.Ytgibacfgjmdjdaa
theorem fnExactRoutesOf_holds : Rows.FnExactRoutesOfSaid := fnExactRoutesOf.proved
end Go.Proofs.Ytgibacfgjmdjdaa
end
#print axioms Go.Proofs.Ytgibacfgjmdjdaa.fnExactRoutesOf_holds
