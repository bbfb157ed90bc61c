/- FnExactRoutesOf: for every input the law returns true. The texts that this program's session printed and proved for it, those that the proof uses, laid together. Conditions: the form's own reach alone. -/
import Derived.Test.YtgibacfgjmdjdaaQFnExactRoutesOf4
import Derived.IntWalk
import Derived.Shelf.Abstract
import Derived.Deep.Slices
import Derived.WalkSpells
import Derived.ChangeArms
import Derived.SizedLaws
section
namespace Go.Proofs.Ytgibacfgjmdjdaa.PFnExactIsStable
open Go.RowKit Go.Proofs.YtgibacfgjmdjdaaW.PrintWords Go.Proofs.YtgibacfgjmdjdaaW.PrintLast Go.Proofs.YtgibacfgjmdjdaaW.PrintMore
attribute [local go_sem] max2_int min2_int max_two min_two max_three min_three max_four min_four   -- for this text's walks alone
set_option linter.unusedVariables false
set_option maxHeartbeats 8000000
set_option maxRecDepth 100000
set_option linter.unusedSimpArgs false
mutual
def impl_routeOf.j0 : Nat → List Int → List Bool → List Int → Int → Int → Int → Bool → List ByteArray → List (S92) → List Int → List Int → List (S95) → List (S97) → Option (Int × Int × Int × Bool × Bool)
 | 0, _, _, _, _, _, _, _, _, _, _, _, _, _ => none
 | k + 1, x1, x2, x3, x4, x5, x14, x58, x320000, x320001, x320002, x320003, x320004, x320005 => if x58 = true then (some (0, 0, 0, false, false)) else ((impl_routeOf.f k x320000 x320001 x320002 x320003 x320004 x320005 x1 x2 x3 x14 (wrap64 (x5 + 1))).bind fun bt334 => (if bt334.2.2.2.2 = true then (if bt334.1 = (-3) then (some (0, 0, 0, false, false)) else ((impl_imported.f k x320000 x320001 x320002 x320003 x320004 x320005 x4 x14 bt334.1 bt334.2.1 bt334.2.2.1 bt334.2.2.2.1).bind fun bt340 => (some (bt340.1, bt340.2.1, bt340.2.2.1, bt340.2.2.2.1, bt340.2.2.2.2)))) else (some (0, 0, 0, false, false))))
def impl_routeOf.f : Nat → List ByteArray → List (S92) → List Int → List Int → List (S95) → List (S97) → List Int → List Bool → List Int → Int → Int → Option (Int × Int × Int × Bool × Bool)
 | 0, _, _, _, _, _, _, _, _, _, _, _ => none
 | k + 1, l0_0, l0_1, l0_2, l0_3, l0_4, l0_5, l1, l2, l3, a4, a5 => if 0 ≤ a4 then (if a4 < (l3.length : Int) then (if (rd l3 a4) = (-3) then (some ((-3), 0, 0, false, true)) else (if (rd l3 a4) = (-2) then ((impl_ownRoute.f k l0_0 l0_1 l0_2 l0_3 l0_4 l0_5 a4).bind fun bt322 => (some (bt322.1, bt322.2.1, bt322.2.2.1, bt322.2.2.2.1, bt322.2.2.2.2))) else (if (rd l3 a4) = (-1) then ((impl_outRoute.f k l0_0 l0_1 l0_2 l0_3 l0_4 l0_5 l1 a4).bind fun bt327 => (some (bt327.1, bt327.2.1, bt327.2.2.1, bt327.2.2.2.1, bt327.2.2.2.2))) else ((impl_linkOf.f l0_0 l0_1 l0_2 l0_3 l0_4 l0_5 a4 (rd l3 a4)).bind fun t332 => (if a5 = (l3.length : Int) then (impl_routeOf.j0 k l1 l2 l3 a4 a5 (rd l3 a4) true l0_0 l0_1 l0_2 l0_3 l0_4 l0_5) else (if t332 < 0 then (impl_routeOf.j0 k l1 l2 l3 a4 a5 (rd l3 a4) true l0_0 l0_1 l0_2 l0_3 l0_4 l0_5) else (if 0 ≤ t332 then (if t332 < (l2.length : Int) then (impl_routeOf.j0 k l1 l2 l3 a4 a5 (rd l3 a4) (rdOf false l2 t332) l0_0 l0_1 l0_2 l0_3 l0_4 l0_5) else (none)) else (none)))))))) else (none)) else (none)
end
theorem impl_routeOf.calls (k : Nat) : ∀ (A0_0 : Option Addr) (c0_0 : Nat) (l0_0 : List ByteArray) (A0_1 : Option Addr) (c0_1 : Nat) (l0_1 : List (S92)) (A0_2 : Option Addr) (c0_2 : Nat) (l0_2 : List Int) (A0_3 : Option Addr) (c0_3 : Nat) (l0_3 : List Int) (A0_4 : Option Addr) (c0_4 : Nat) (l0_4 : List (S95)) (A0_5 : Option Addr) (c0_5 : Nat) (l0_5 : List (S97)) (A1 : Option Addr) (c1 : Nat) (l1 : List Int) (A2 : Option Addr) (c2 : Nat) (l2 : List Bool) (A3 : Option Addr) (c3 : Nat) (l3 : List Int) (a4 : Int) (a5 : Int) (r1 : Int) (r2 : Int) (r3 : Int) (r4 : Bool) (r5 : Bool) (w : World) (hr0_0 : Kd.C Kd.string w A0_0 l0_0.length l0_0) (hc0_0 : l0_0.length ≤ c0_0) (hr0_1 : Kd.C k92 w A0_1 l0_1.length l0_1) (hc0_1 : l0_1.length ≤ c0_1) (hr0_2 : Kd.C (Kd.int .i64) w A0_2 l0_2.length l0_2) (hc0_2 : l0_2.length ≤ c0_2) (hr0_3 : Kd.C (Kd.int .i64) w A0_3 l0_3.length l0_3) (hc0_3 : l0_3.length ≤ c0_3) (hr0_4 : Kd.C k95 w A0_4 l0_4.length l0_4) (hc0_4 : l0_4.length ≤ c0_4) (hr0_5 : Kd.C k97 w A0_5 l0_5.length l0_5) (hc0_5 : l0_5.length ≤ c0_5) (hr1 : Kd.C (Kd.int .i64) w A1 l1.length l1) (hc1 : l1.length ≤ c1) (hr2 : Kd.C Kd.bool w A2 l2.length l2) (hc2 : l2.length ≤ c2) (hr3 : Kd.C (Kd.int .i64) w A3 l3.length l3) (hc3 : l3.length ≤ c3) (h : impl_routeOf.f k l0_0 l0_1 l0_2 l0_3 l0_4 l0_5 l1 l2 l3 a4 a5 = some (r1, r2, r3, r4, r5)),
  Calls Try.prog 81 #[.agg #[.slice A0_0 l0_0.length c0_0, .slice A0_1 l0_1.length c0_1, .slice A0_2 l0_2.length c0_2, .slice A0_3 l0_3.length c0_3, .slice A0_4 l0_4.length c0_4, .slice A0_5 l0_5.length c0_5], .slice A1 l1.length c1, .slice A2 l2.length c2, .slice A3 l3.length c3, .int .i64 a4, .int .i64 a5] w fun e w' => e = .returned (.tuple #[.agg #[.int .i64 r1, .int .i64 r2, .int .i64 r3, .bool r4], .bool r5]) ∧ Below w.heap.size w w' := by
 induction k using Nat.strongRecOn with
 | _ k ih =>
 intro A0_0 c0_0 l0_0 A0_1 c0_1 l0_1 A0_2 c0_2 l0_2 A0_3 c0_3 l0_3 A0_4 c0_4 l0_4 A0_5 c0_5 l0_5 A1 c1 l1 A2 c2 l2 A3 c3 l3 a4 a5 r1 r2 r3 r4 r5 w hr0_0 hc0_0 hr0_1 hc0_1 hr0_2 hc0_2 hr0_3 hc0_3 hr0_4 hc0_4 hr0_5 hc0_5 hr1 hc1 hr2 hc2 hr3 hc3 h
 cases k with
 | zero => exact absurd h (by simp [impl_routeOf.f])
 | succ k =>
 simp only [impl_routeOf.f] at h
 have hu38 := Try.underlying38
 have hu80 := Try.underlying80
 obtain ⟨HR0_0, HC0_0, HR0_1, HC0_1, HR0_2, HC0_2, HR0_3, HC0_3, HR0_4, HC0_4, HR0_5, HC0_5⟩ := as12 hr0_0 hc0_0 hr0_1 hc0_1 hr0_2 hc0_2 hr0_3 hc0_3 hr0_4 hc0_4 hr0_5 hc0_5
 clear hr0_0 hc0_0 hr0_1 hc0_1 hr0_2 hc0_2 hr0_3 hc0_3 hr0_4 hc0_4 hr0_5 hc0_5
 have HR1 := aM hr1
 have HC1 := aM hc1
 clear hr1 hc1
 have HR2 := aM hr2
 have HC2 := aM hc2
 clear hr2 hc2
 have HR3 := aM hr3
 have HC3 := aM hc3
 clear hr3 hc3
 have HB := aM (Below.refl w.heap.size w)
 have H : (if 0 ≤ a4 then (if a4 < (l3.length : Int) then (if (rd l3 a4) = (-3) then (some ((-3), 0, 0, false, true)) else (if (rd l3 a4) = (-2) then ((impl_ownRoute.f k l0_0 l0_1 l0_2 l0_3 l0_4 l0_5 a4).bind fun bt322 => (some (bt322.1, bt322.2.1, bt322.2.2.1, bt322.2.2.2.1, bt322.2.2.2.2))) else (if (rd l3 a4) = (-1) then ((impl_outRoute.f k l0_0 l0_1 l0_2 l0_3 l0_4 l0_5 l1 a4).bind fun bt327 => (some (bt327.1, bt327.2.1, bt327.2.2.1, bt327.2.2.2.1, bt327.2.2.2.2))) else ((impl_linkOf.f l0_0 l0_1 l0_2 l0_3 l0_4 l0_5 a4 (rd l3 a4)).bind fun t332 => (if a5 = (l3.length : Int) then (impl_routeOf.j0 k l1 l2 l3 a4 a5 (rd l3 a4) true l0_0 l0_1 l0_2 l0_3 l0_4 l0_5) else (if t332 < 0 then (impl_routeOf.j0 k l1 l2 l3 a4 a5 (rd l3 a4) true l0_0 l0_1 l0_2 l0_3 l0_4 l0_5) else (if 0 ≤ t332 then (if t332 < (l2.length : Int) then (impl_routeOf.j0 k l1 l2 l3 a4 a5 (rd l3 a4) (rdOf false l2 t332) l0_0 l0_1 l0_2 l0_3 l0_4 l0_5) else (none)) else (none)))))))) else (none)) else (none)) = some (r1, r2, r3, r4, r5) := h
 clear h
 by_cases c7 : 0 ≤ a4
 rotate_left
 ·rw [if_neg c7] at H
  exact absurd H (by simp)
 rw [if_pos c7] at H
 have c7b0 : decide (0 ≤ a4) = true := decide_eq_true c7
 clear c7
 by_cases c8 : a4 < (l3.length : Int)
 rotate_left
 ·rw [if_neg c8] at H
  exact absurd H (by simp)
 rw [if_pos c8] at H
 have c8b0 : decide (a4 < (l3.length : Int)) = true := decide_eq_true c8
 clear c8
 by_cases c9 : (rd l3 a4) = (-3)
 ·rw [if_pos c9] at H
  have c9b0 : ((rd l3 a4) == (-3)) = true := beq_iff_eq.mpr c9
  have c9b1 : ((rd l3 a4) != (-3)) = false := bne_eq_false_iff_eq.mpr c9
  clear c9
  simp only [Option.some.injEq, Prod.mk.injEq] at H
  obtain ⟨rfl, rfl, rfl, rfl, rfl⟩ := H
  go_enter Try.func81, Try.ntmps81
  go_wp2_with (first | ((with_reducible refine gate_dst (N := 6) rfl ?_); refine box_event rfl (N := 6) rfl (cs := #[.slice A0_0 l0_0.length c0_0, .slice A0_1 l0_1.length c0_1, .slice A0_2 l0_2.length c0_2, .slice A0_3 l0_3.length c0_3, .slice A0_4 l0_4.length c0_4, .slice A0_5 l0_5.length c0_5]) (t := 38) (by go_simp; done) ?_; intro gb319 hg w10 hbox hb; have BK319 := aM (hbox); have GW319 := bGE HB.out hg; have GE319 := bGE HB.out hg; replace HB := aB HB hb; clear hb hbox hg) | ((with_reducible refine gate_dst (N := 12) rfl ?_); refine box_event rfl (N := 12) rfl (cs := #[.int .i64 0, .int .i64 0, .int .i64 0, .bool false]) (t := 80) (by go_simp; done) ?_; intro gb320 hg w11 hbox hb; have BK320 := aM (hbox); have GW320 := bGE HB.out hg; have GE320 := bGE HB.out hg; replace HB := aB HB hb; have NB319_320 := bLT BK319.out hg; have NB320_319 := bGT BK319.out hg; replace BK319 := aK BK319 hb; clear hb hbox hg; have p321 : 0 ≤ (a4 : Int) := oD ‹_›; have q321 : a4 < (l3.length : Int) := oD ‹_›; obtain ⟨ad321, e321, hx321_0⟩ := Kd.at_int HR3.out a4 p321 q321; cases e321; replace hx321_0 := swB HB.out hx321_0; replace p321 := eq_true p321; replace q321 := eq_true q321; have hnb12 := NB320_319.out; have hnc12 := NB319_320.out; obtain ⟨hcz13_0, hcz13_1, hcz13_2, hcz13_3⟩ := swc4 BK320.out; obtain ⟨hfz13_0, hfz13_1, hfz13_2, hfz13_3⟩ := swf4 BK320.out))
  refine bodyPost_ret (results_ct rfl _ _ gb320 80 #[.int .i64 (-3), .int .i64 0, .int .i64 0, .bool false] (0, 0) _ rfl (by refine blk_put (cs := #[.int .i64 (-3), .int .i64 0, .int .i64 0, .bool false]) ?_ 3 _ rfl; refine blk_put (cs := #[.int .i64 (-3), .int .i64 0, .int .i64 0, .bool false]) ?_ 2 _ rfl; refine blk_put (cs := #[.int .i64 (-3), .int .i64 0, .int .i64 0, .bool false]) ?_ 1 _ rfl; refine blk_put (cs := #[.int .i64 0, .int .i64 0, .int .i64 0, .bool false]) ?_ 0 _ rfl; exact BK320.out) Try.underlying80 rfl (by kernel_rfl)) rfl ?_
  exact ⟨by rfl, by repeat ((with_reducible first | exact HB.out | refine below_set ?_ GE320.out))⟩
 rw [if_neg c9] at H
 have c9b0 : ((rd l3 a4) == (-3)) = false := beq_eq_false_iff_ne.mpr c9
 have c9b1 : ((rd l3 a4) != (-3)) = true := bne_iff_ne.mpr c9
 by_cases c14 : (rd l3 a4) = (-2)
 ·rw [if_pos c14] at H
  have c14b0 : ((rd l3 a4) == (-2)) = true := beq_iff_eq.mpr c14
  have c14b1 : ((rd l3 a4) != (-2)) = false := bne_eq_false_iff_eq.mpr c14
  clear c14
  replace H := bS H
  obtain ⟨⟨t322, t323, t324, t325, t326⟩, A150, H⟩ := H
  replace H : (some (t322, t323, t324, t325, t326)) = some (r1, r2, r3, r4, r5) := H
  have A15 := aM A150
  clear A150
  simp only [Option.some.injEq, Prod.mk.injEq] at H
  obtain ⟨rfl, rfl, rfl, rfl, rfl⟩ := H
  go_enter Try.func81, Try.ntmps81
  go_wp2_with (first | ((with_reducible refine gate_dst (N := 6) rfl ?_); refine box_event rfl (N := 6) rfl (cs := #[.slice A0_0 l0_0.length c0_0, .slice A0_1 l0_1.length c0_1, .slice A0_2 l0_2.length c0_2, .slice A0_3 l0_3.length c0_3, .slice A0_4 l0_4.length c0_4, .slice A0_5 l0_5.length c0_5]) (t := 38) (by go_simp; done) ?_; intro gb319 hg w16 hbox hb; have BK319 := aM (hbox); have GW319 := bGE HB.out hg; have GE319 := bGE HB.out hg; replace HB := aB HB hb; clear hb hbox hg) | ((with_reducible refine gate_dst (N := 12) rfl ?_); refine box_event rfl (N := 12) rfl (cs := #[.int .i64 0, .int .i64 0, .int .i64 0, .bool false]) (t := 80) (by go_simp; done) ?_; intro gb320 hg w17 hbox hb; have BK320 := aM (hbox); have GW320 := bGE HB.out hg; have GE320 := bGE HB.out hg; replace HB := aB HB hb; have NB319_320 := bLT BK319.out hg; have NB320_319 := bGT BK319.out hg; replace BK319 := aK BK319 hb; clear hb hbox hg; have p321 : 0 ≤ (a4 : Int) := oD ‹_›; have q321 : a4 < (l3.length : Int) := oD ‹_›; obtain ⟨ad321, e321, hx321_0⟩ := Kd.at_int HR3.out a4 p321 q321; cases e321; replace hx321_0 := swB HB.out hx321_0; replace p321 := eq_true p321; replace q321 := eq_true q321; have hnb18 := NB319_320.out; have hnc18 := NB320_319.out; obtain ⟨hcz19_0, hcz19_1, hcz19_2, hcz19_3, hcz19_4, hcz19_5⟩ := swc6 BK319.out; obtain ⟨hfz19_0, hfz19_1, hfz19_2, hfz19_3, hfz19_4, hfz19_5⟩ := swf6 BK319.out) | (go_at_call 102; (with_reducible refine (impl_ownRoute.calls k _ _ l0_0 _ _ l0_1 _ _ l0_2 _ _ l0_3 _ _ l0_4 _ _ l0_5 a4 t322 t323 t324 t325 t326 _ (Kd.C_below HR0_0.out HB.out) HC0_0.out (Kd.C_below HR0_1.out HB.out) HC0_1.out (Kd.C_below HR0_2.out HB.out) HC0_2.out (Kd.C_below HR0_3.out HB.out) HC0_3.out (Kd.C_below HR0_4.out HB.out) HC0_4.out (Kd.C_below HR0_5.out HB.out) HC0_5.out A15.out).mono ?_); rintro e w20 ⟨rfl, hb⟩; replace BK319 := aK BK319 hb; replace BK320 := aK BK320 hb; replace HB := aB HB hb; (try clear hb); obtain ⟨hcz21_0, hcz21_1, hcz21_2, hcz21_3⟩ := swc4 BK320.out; obtain ⟨hfz21_0, hfz21_1, hfz21_2, hfz21_3⟩ := swf4 BK320.out))
  refine bodyPost_ret (results_ct rfl _ _ gb320 80 #[.int .i64 t322, .int .i64 t323, .int .i64 t324, .bool t325] (0, 0) _ rfl (by refine blk_put (cs := #[.int .i64 t322, .int .i64 t323, .int .i64 t324, .bool false]) ?_ 3 _ rfl; refine blk_put (cs := #[.int .i64 t322, .int .i64 t323, .int .i64 0, .bool false]) ?_ 2 _ rfl; refine blk_put (cs := #[.int .i64 t322, .int .i64 0, .int .i64 0, .bool false]) ?_ 1 _ rfl; refine blk_put (cs := #[.int .i64 0, .int .i64 0, .int .i64 0, .bool false]) ?_ 0 _ rfl; exact BK320.out) Try.underlying80 rfl (by kernel_rfl)) rfl ?_
  exact ⟨by rfl, by repeat ((with_reducible first | exact HB.out | refine below_set ?_ GE320.out))⟩
 rw [if_neg c14] at H
 have c14b0 : ((rd l3 a4) == (-2)) = false := beq_eq_false_iff_ne.mpr c14
 have c14b1 : ((rd l3 a4) != (-2)) = true := bne_iff_ne.mpr c14
 by_cases c22 : (rd l3 a4) = (-1)
 ·rw [if_pos c22] at H
  have c22b0 : ((rd l3 a4) == (-1)) = true := beq_iff_eq.mpr c22
  have c22b1 : ((rd l3 a4) != (-1)) = false := bne_eq_false_iff_eq.mpr c22
  clear c22
  replace H := bS H
  obtain ⟨⟨t327, t328, t329, t330, t331⟩, A230, H⟩ := H
  replace H : (some (t327, t328, t329, t330, t331)) = some (r1, r2, r3, r4, r5) := H
  have A23 := aM A230
  clear A230
  simp only [Option.some.injEq, Prod.mk.injEq] at H
  obtain ⟨rfl, rfl, rfl, rfl, rfl⟩ := H
  go_enter Try.func81, Try.ntmps81
  go_wp2_with (first | ((with_reducible refine gate_dst (N := 6) rfl ?_); refine box_event rfl (N := 6) rfl (cs := #[.slice A0_0 l0_0.length c0_0, .slice A0_1 l0_1.length c0_1, .slice A0_2 l0_2.length c0_2, .slice A0_3 l0_3.length c0_3, .slice A0_4 l0_4.length c0_4, .slice A0_5 l0_5.length c0_5]) (t := 38) (by go_simp; done) ?_; intro gb319 hg w24 hbox hb; have BK319 := aM (hbox); have GW319 := bGE HB.out hg; have GE319 := bGE HB.out hg; replace HB := aB HB hb; clear hb hbox hg) | ((with_reducible refine gate_dst (N := 12) rfl ?_); refine box_event rfl (N := 12) rfl (cs := #[.int .i64 0, .int .i64 0, .int .i64 0, .bool false]) (t := 80) (by go_simp; done) ?_; intro gb320 hg w25 hbox hb; have BK320 := aM (hbox); have GW320 := bGE HB.out hg; have GE320 := bGE HB.out hg; replace HB := aB HB hb; have NB319_320 := bLT BK319.out hg; have NB320_319 := bGT BK319.out hg; replace BK319 := aK BK319 hb; clear hb hbox hg; have p321 : 0 ≤ (a4 : Int) := oD ‹_›; have q321 : a4 < (l3.length : Int) := oD ‹_›; obtain ⟨ad321, e321, hx321_0⟩ := Kd.at_int HR3.out a4 p321 q321; cases e321; replace hx321_0 := swB HB.out hx321_0; replace p321 := eq_true p321; replace q321 := eq_true q321; have hnb26 := NB319_320.out; have hnc26 := NB320_319.out; obtain ⟨hcz27_0, hcz27_1, hcz27_2, hcz27_3, hcz27_4, hcz27_5⟩ := swc6 BK319.out; obtain ⟨hfz27_0, hfz27_1, hfz27_2, hfz27_3, hfz27_4, hfz27_5⟩ := swf6 BK319.out) | (go_at_call 103; (with_reducible refine (impl_outRoute.calls k _ _ l0_0 _ _ l0_1 _ _ l0_2 _ _ l0_3 _ _ l0_4 _ _ l0_5 _ _ l1 a4 t327 t328 t329 t330 t331 _ (Kd.C_below HR0_0.out HB.out) HC0_0.out (Kd.C_below HR0_1.out HB.out) HC0_1.out (Kd.C_below HR0_2.out HB.out) HC0_2.out (Kd.C_below HR0_3.out HB.out) HC0_3.out (Kd.C_below HR0_4.out HB.out) HC0_4.out (Kd.C_below HR0_5.out HB.out) HC0_5.out (Kd.C_below HR1.out HB.out) HC1.out A23.out).mono ?_); rintro e w28 ⟨rfl, hb⟩; replace BK319 := aK BK319 hb; replace BK320 := aK BK320 hb; replace HB := aB HB hb; (try clear hb); obtain ⟨hcz29_0, hcz29_1, hcz29_2, hcz29_3⟩ := swc4 BK320.out; obtain ⟨hfz29_0, hfz29_1, hfz29_2, hfz29_3⟩ := swf4 BK320.out))
  refine bodyPost_ret (results_ct rfl _ _ gb320 80 #[.int .i64 t327, .int .i64 t328, .int .i64 t329, .bool t330] (0, 0) _ rfl (by refine blk_put (cs := #[.int .i64 t327, .int .i64 t328, .int .i64 t329, .bool false]) ?_ 3 _ rfl; refine blk_put (cs := #[.int .i64 t327, .int .i64 t328, .int .i64 0, .bool false]) ?_ 2 _ rfl; refine blk_put (cs := #[.int .i64 t327, .int .i64 0, .int .i64 0, .bool false]) ?_ 1 _ rfl; refine blk_put (cs := #[.int .i64 0, .int .i64 0, .int .i64 0, .bool false]) ?_ 0 _ rfl; exact BK320.out) Try.underlying80 rfl (by kernel_rfl)) rfl ?_
  exact ⟨by rfl, by repeat ((with_reducible first | exact HB.out | refine below_set ?_ GE320.out))⟩
 rw [if_neg c22] at H
 have c22b0 : ((rd l3 a4) == (-1)) = false := beq_eq_false_iff_ne.mpr c22
 have c22b1 : ((rd l3 a4) != (-1)) = true := bne_iff_ne.mpr c22
 replace H := bS H
 obtain ⟨t332, A300, H⟩ := H
 replace H : (if a5 = (l3.length : Int) then (impl_routeOf.j0 k l1 l2 l3 a4 a5 (rd l3 a4) true l0_0 l0_1 l0_2 l0_3 l0_4 l0_5) else (if t332 < 0 then (impl_routeOf.j0 k l1 l2 l3 a4 a5 (rd l3 a4) true l0_0 l0_1 l0_2 l0_3 l0_4 l0_5) else (if 0 ≤ t332 then (if t332 < (l2.length : Int) then (impl_routeOf.j0 k l1 l2 l3 a4 a5 (rd l3 a4) (rdOf false l2 t332) l0_0 l0_1 l0_2 l0_3 l0_4 l0_5) else (none)) else (none)))) = some (r1, r2, r3, r4, r5) := H
 have A30 := aM A300
 clear A300
 have HC31 := aM H
 clear H
 go_enter Try.func81, Try.ntmps81
 go_upto_region 10 with (first | ((with_reducible refine gate_dst (N := 6) rfl ?_); refine box_event rfl (N := 6) rfl (cs := #[.slice A0_0 l0_0.length c0_0, .slice A0_1 l0_1.length c0_1, .slice A0_2 l0_2.length c0_2, .slice A0_3 l0_3.length c0_3, .slice A0_4 l0_4.length c0_4, .slice A0_5 l0_5.length c0_5]) (t := 38) (by go_simp; done) ?_; intro gb319 hg w32 hbox hb; have BK319 := aM (hbox); have GW319 := bGE HB.out hg; have GE319 := bGE HB.out hg; replace HB := aB HB hb; clear hb hbox hg) | ((with_reducible refine gate_dst (N := 12) rfl ?_); refine box_event rfl (N := 12) rfl (cs := #[.int .i64 0, .int .i64 0, .int .i64 0, .bool false]) (t := 80) (by go_simp; done) ?_; intro gb320 hg w33 hbox hb; have BK320 := aM (hbox); have GW320 := bGE HB.out hg; have GE320 := bGE HB.out hg; replace HB := aB HB hb; have NB319_320 := bLT BK319.out hg; have NB320_319 := bGT BK319.out hg; replace BK319 := aK BK319 hb; clear hb hbox hg; have p321 : 0 ≤ (a4 : Int) := oD ‹_›; have q321 : a4 < (l3.length : Int) := oD ‹_›; obtain ⟨ad321, e321, hx321_0⟩ := Kd.at_int HR3.out a4 p321 q321; cases e321; replace hx321_0 := swB HB.out hx321_0; replace p321 := eq_true p321; replace q321 := eq_true q321; have hnb34 := NB319_320.out; have hnc34 := NB320_319.out; obtain ⟨hcz35_0, hcz35_1, hcz35_2, hcz35_3, hcz35_4, hcz35_5⟩ := swc6 BK319.out; obtain ⟨hfz35_0, hfz35_1, hfz35_2, hfz35_3, hfz35_4, hfz35_5⟩ := swf6 BK319.out) | (go_at_call 89; (with_reducible refine (impl_linkOf.calls _ _ l0_0 _ _ l0_1 _ _ l0_2 _ _ l0_3 _ _ l0_4 _ _ l0_5 a4 (rd l3 a4) t332 _ (Kd.C_below HR0_0.out HB.out) HC0_0.out (Kd.C_below HR0_1.out HB.out) HC0_1.out (Kd.C_below HR0_2.out HB.out) HC0_2.out (Kd.C_below HR0_3.out HB.out) HC0_3.out (Kd.C_below HR0_4.out HB.out) HC0_4.out (Kd.C_below HR0_5.out HB.out) HC0_5.out A30.out).mono ?_); rintro e w36 ⟨rfl, hb⟩; replace BK319 := aK BK319 hb; replace BK320 := aK BK320 hb; replace HB := aB HB hb; (try clear hb)))
 (try simp only [Act.put, List.setIfInBounds_toArray, List.set_cons_zero, List.set_cons_succ])
 go_cut [58] (fun v58 wc => ∃ (kq : Nat) (x58_30 : Bool), v58 = .bool x58_30 ∧ Aside0 (impl_routeOf.j0 kq l1 l2 l3 a4 a5 (rd l3 a4) x58_30 l0_0 l0_1 l0_2 l0_3 l0_4 l0_5 = some (r1, r2, r3, r4, r5)) ∧ Aside0 (kq ≤ k) ∧ Aside0 (wc.heap[gb319]? = some (.cells #[(.slice A0_0 l0_0.length c0_0), (.slice A0_1 l0_1.length c0_1), (.slice A0_2 l0_2.length c0_2), (.slice A0_3 l0_3.length c0_3), (.slice A0_4 l0_4.length c0_4), (.slice A0_5 l0_5.length c0_5)] 38 (0, 0))) ∧ Aside0 (wc.heap[gb320]? = some (.cells #[.int .i64 0, .int .i64 0, .int .i64 0, .bool false] 80 (0, 0))) ∧ Aside0 (Below w.heap.size w wc))
 case first =>
  have H := HC31.out
  clear HC31
  by_cases c37 : a5 = (l3.length : Int)
  ·rw [if_pos c37] at H
   have c37b0 : (a5 == (l3.length : Int)) = true := beq_iff_eq.mpr c37
   have c37b1 : (a5 != (l3.length : Int)) = false := bne_eq_false_iff_eq.mpr c37
   clear c37
   (skip)
   have H' := aM H
   clear H
   go_wp2
   go_meet
   case rel => exact ⟨_, (true), (by rfl), H', ⟨by omega⟩, ⟨by exact BK319.out⟩, ⟨by exact BK320.out⟩, ⟨by repeat ((with_reducible exact HB.out))⟩⟩
  rw [if_neg c37] at H
  have c37b0 : (a5 == (l3.length : Int)) = false := beq_eq_false_iff_ne.mpr c37
  have c37b1 : (a5 != (l3.length : Int)) = true := bne_iff_ne.mpr c37
  (skip)
  by_cases c38 : t332 < 0
  ·rw [if_pos c38] at H
   have c38b0 : decide (t332 < 0) = true := decide_eq_true c38
   clear c38
   have H' := aM H
   clear H
   go_wp2
   go_meet
   case rel => exact ⟨_, (true), (by rfl), H', ⟨by omega⟩, ⟨by exact BK319.out⟩, ⟨by exact BK320.out⟩, ⟨by repeat ((with_reducible exact HB.out))⟩⟩
  rw [if_neg c38] at H
  have c38b0 : decide (t332 < 0) = false := decide_eq_false c38
  clear c38
  by_cases c39 : 0 ≤ t332
  rotate_left
  ·rw [if_neg c39] at H
   exact absurd H (by simp)
  rw [if_pos c39] at H
  have c39b0 : decide (0 ≤ t332) = true := decide_eq_true c39
  clear c39
  by_cases c40 : t332 < (l2.length : Int)
  rotate_left
  ·rw [if_neg c40] at H
   exact absurd H (by simp)
  rw [if_pos c40] at H
  have c40b0 : decide (t332 < (l2.length : Int)) = true := decide_eq_true c40
  clear c40
  have H' := aM H
  clear H
  have p333 : 0 ≤ (t332 : Int) := oD ‹_›
  have q333 : t332 < (l2.length : Int) := oD ‹_›
  obtain ⟨ad333, e333, hx333_0⟩ := Kd.at_bool HR2.out t332 p333 q333
  cases e333
  replace hx333_0 := swB HB.out hx333_0
  replace p333 := eq_true p333
  replace q333 := eq_true q333
  go_wp2
  go_meet
  case rel => exact ⟨_, (rdOf false l2 t332), (by rfl), H', ⟨by omega⟩, ⟨by exact BK319.out⟩, ⟨by exact BK320.out⟩, ⟨by repeat ((with_reducible exact HB.out))⟩⟩
 clear HC31 c7b0 c8b0 c9 c9b0 c9b1 c14 c14b0 c14b1 c22 c22b0 c22b1 hcz35_0 hcz35_1 hcz35_2 hcz35_3 hcz35_4 hcz35_5 hfz35_0 hfz35_1 hfz35_2 hfz35_3 hfz35_4 hfz35_5 hx321_0 p321 q321
 obtain ⟨kq, x58_30, rfl, HA, HJ30, BK319, BK320, HB⟩ := hcut
 cases kq with
 | zero => exact absurd HA.out (by simp [impl_routeOf.j0])
 | succ kj30 =>
  have H := HA.out
  clear HA
  simp only [impl_routeOf.j0] at H
  by_cases c41 : x58_30 = true
  ·subst c41
   rw [if_pos rfl] at H
   simp only [Option.some.injEq, Prod.mk.injEq] at H
   obtain ⟨rfl, rfl, rfl, rfl, rfl⟩ := H
   have hnb42 := NB320_319.out
   have hnc42 := NB319_320.out
   obtain ⟨hcz43_0, hcz43_1, hcz43_2, hcz43_3⟩ := swc4 BK320.out
   obtain ⟨hfz43_0, hfz43_1, hfz43_2, hfz43_3⟩ := swf4 BK320.out
   go_wp2
   refine bodyPost_ret (results_ct rfl _ _ gb320 80 #[.int .i64 0, .int .i64 0, .int .i64 0, .bool false] (0, 0) _ rfl (by refine blk_put (cs := #[.int .i64 0, .int .i64 0, .int .i64 0, .bool false]) ?_ 3 _ rfl; refine blk_put (cs := #[.int .i64 0, .int .i64 0, .int .i64 0, .bool false]) ?_ 2 _ rfl; refine blk_put (cs := #[.int .i64 0, .int .i64 0, .int .i64 0, .bool false]) ?_ 1 _ rfl; refine blk_put (cs := #[.int .i64 0, .int .i64 0, .int .i64 0, .bool false]) ?_ 0 _ rfl; exact BK320.out) Try.underlying80 rfl (by kernel_rfl)) rfl ?_
   exact ⟨by rfl, by repeat ((with_reducible first | exact HB.out | refine below_set ?_ GE320.out))⟩
  replace c41 := Bool.eq_false_iff.mpr c41
  subst c41
  rw [if_neg (show ¬ (false = true) by decide)] at H
  replace H := bS H
  obtain ⟨⟨t334, t335, t336, t337, t338⟩, A440, H⟩ := H
  replace H : (if t338 = true then (if t334 = (-3) then (some (0, 0, 0, false, false)) else ((impl_imported.f kj30 l0_0 l0_1 l0_2 l0_3 l0_4 l0_5 a4 (rd l3 a4) t334 t335 t336 t337).bind fun bt340 => (some (bt340.1, bt340.2.1, bt340.2.2.1, bt340.2.2.2.1, bt340.2.2.2.2)))) else (some (0, 0, 0, false, false))) = some (r1, r2, r3, r4, r5) := H
  have A44 := aM A440
  clear A440
  by_cases c45 : t338 = true
  rotate_left
  ·replace c45 := Bool.eq_false_iff.mpr c45
   subst c45
   rw [if_neg (show ¬ (false = true) by decide)] at H
   simp only [Option.some.injEq, Prod.mk.injEq] at H
   obtain ⟨rfl, rfl, rfl, rfl, rfl⟩ := H
   have hnb66 := NB319_320.out
   have hnc66 := NB320_319.out
   obtain ⟨hcz67_0, hcz67_1, hcz67_2, hcz67_3, hcz67_4, hcz67_5⟩ := swc6 BK319.out
   obtain ⟨hfz67_0, hfz67_1, hfz67_2, hfz67_3, hfz67_4, hfz67_5⟩ := swf6 BK319.out
   go_wp2_with (first | (go_at_call 81; (with_reducible refine (ih kj30 (by have := HJ30.out; omega) _ _ l0_0 _ _ l0_1 _ _ l0_2 _ _ l0_3 _ _ l0_4 _ _ l0_5 _ _ l1 _ _ l2 _ _ l3 (rd l3 a4) (wrap64 (a5 + 1)) t334 t335 t336 t337 false _ (Kd.C_below HR0_0.out HB.out) HC0_0.out (Kd.C_below HR0_1.out HB.out) HC0_1.out (Kd.C_below HR0_2.out HB.out) HC0_2.out (Kd.C_below HR0_3.out HB.out) HC0_3.out (Kd.C_below HR0_4.out HB.out) HC0_4.out (Kd.C_below HR0_5.out HB.out) HC0_5.out (Kd.C_below HR1.out HB.out) HC1.out (Kd.C_below HR2.out HB.out) HC2.out (Kd.C_below HR3.out HB.out) HC3.out A44.out).mono ?_); rintro e w68 ⟨rfl, hb⟩; replace BK319 := aK BK319 hb; replace BK320 := aK BK320 hb; replace HB := aB HB hb; (try clear hb)) | ((with_reducible refine gate_dst (N := 16) rfl ?_); refine box_event rfl (N := 16) rfl (cs := #[.int .i64 0, .int .i64 0, .int .i64 0, .bool false]) (t := 80) (by go_simp; done) ?_; intro gb339 hg w69 hbox hb; have BK339 := aM (hbox); have GW339 := bGE HB.out hg; have GE339 := bGE HB.out hg; replace HB := aB HB hb; have NB319_339 := bLT BK319.out hg; have NB339_319 := bGT BK319.out hg; replace BK319 := aK BK319 hb; have NB320_339 := bLT BK320.out hg; have NB339_320 := bGT BK320.out hg; replace BK320 := aK BK320 hb; clear hb hbox hg; have hnb70 := NB339_319.out; have hnc70 := NB319_339.out; have hnb71 := NB339_320.out; have hnc71 := NB320_339.out; obtain ⟨hcz72_0, hcz72_1, hcz72_2, hcz72_3⟩ := swc4 BK339.out; obtain ⟨hfz72_0, hfz72_1, hfz72_2, hfz72_3⟩ := swf4 BK339.out; obtain ⟨hcz73_0, hcz73_1, hcz73_2, hcz73_3⟩ := swc4 BK320.out; obtain ⟨hfz73_0, hfz73_1, hfz73_2, hfz73_3⟩ := swf4 BK320.out))
   refine bodyPost_ret (results_ct rfl _ _ gb320 80 #[.int .i64 0, .int .i64 0, .int .i64 0, .bool false] (0, 0) _ rfl (by refine blk_put (cs := #[.int .i64 0, .int .i64 0, .int .i64 0, .bool false]) ?_ 3 _ rfl; refine blk_put (cs := #[.int .i64 0, .int .i64 0, .int .i64 0, .bool false]) ?_ 2 _ rfl; refine blk_put (cs := #[.int .i64 0, .int .i64 0, .int .i64 0, .bool false]) ?_ 1 _ rfl; refine blk_put (cs := #[.int .i64 0, .int .i64 0, .int .i64 0, .bool false]) ?_ 0 _ rfl; refine blk_far ?_ NB320_339.out _; refine blk_far ?_ NB320_339.out _; refine blk_far ?_ NB320_339.out _; refine blk_far ?_ NB320_339.out _; exact BK320.out) Try.underlying80 rfl (by kernel_rfl)) rfl ?_
   exact ⟨by rfl, by repeat ((with_reducible first | exact HB.out | refine below_set ?_ GE320.out | refine below_set ?_ GE339.out))⟩
  subst c45
  rw [if_pos rfl] at H
  by_cases c46 : t334 = (-3)
  ·rw [if_pos c46] at H
   have c46b0 : (t334 == (-3)) = true := beq_iff_eq.mpr c46
   have c46b1 : (t334 != (-3)) = false := bne_eq_false_iff_eq.mpr c46
   clear c46
   simp only [Option.some.injEq, Prod.mk.injEq] at H
   obtain ⟨rfl, rfl, rfl, rfl, rfl⟩ := H
   have hnb47 := NB319_320.out
   have hnc47 := NB320_319.out
   obtain ⟨hcz48_0, hcz48_1, hcz48_2, hcz48_3, hcz48_4, hcz48_5⟩ := swc6 BK319.out
   obtain ⟨hfz48_0, hfz48_1, hfz48_2, hfz48_3, hfz48_4, hfz48_5⟩ := swf6 BK319.out
   go_wp2_with (first | (go_at_call 81; (with_reducible refine (ih kj30 (by have := HJ30.out; omega) _ _ l0_0 _ _ l0_1 _ _ l0_2 _ _ l0_3 _ _ l0_4 _ _ l0_5 _ _ l1 _ _ l2 _ _ l3 (rd l3 a4) (wrap64 (a5 + 1)) t334 t335 t336 t337 true _ (Kd.C_below HR0_0.out HB.out) HC0_0.out (Kd.C_below HR0_1.out HB.out) HC0_1.out (Kd.C_below HR0_2.out HB.out) HC0_2.out (Kd.C_below HR0_3.out HB.out) HC0_3.out (Kd.C_below HR0_4.out HB.out) HC0_4.out (Kd.C_below HR0_5.out HB.out) HC0_5.out (Kd.C_below HR1.out HB.out) HC1.out (Kd.C_below HR2.out HB.out) HC2.out (Kd.C_below HR3.out HB.out) HC3.out A44.out).mono ?_); rintro e w49 ⟨rfl, hb⟩; replace BK319 := aK BK319 hb; replace BK320 := aK BK320 hb; replace HB := aB HB hb; (try clear hb)) | ((with_reducible refine gate_dst (N := 16) rfl ?_); refine box_event rfl (N := 16) rfl (cs := #[.int .i64 0, .int .i64 0, .int .i64 0, .bool false]) (t := 80) (by go_simp; done) ?_; intro gb339 hg w50 hbox hb; have BK339 := aM (hbox); have GW339 := bGE HB.out hg; have GE339 := bGE HB.out hg; replace HB := aB HB hb; have NB319_339 := bLT BK319.out hg; have NB339_319 := bGT BK319.out hg; replace BK319 := aK BK319 hb; have NB320_339 := bLT BK320.out hg; have NB339_320 := bGT BK320.out hg; replace BK320 := aK BK320 hb; clear hb hbox hg; have hnb51 := NB339_319.out; have hnc51 := NB319_339.out; have hnb52 := NB339_320.out; have hnc52 := NB320_339.out; obtain ⟨hcz53_0, hcz53_1, hcz53_2, hcz53_3⟩ := swc4 BK339.out; obtain ⟨hfz53_0, hfz53_1, hfz53_2, hfz53_3⟩ := swf4 BK339.out; obtain ⟨hcz54_0, hcz54_1, hcz54_2, hcz54_3⟩ := swc4 BK320.out; obtain ⟨hfz54_0, hfz54_1, hfz54_2, hfz54_3⟩ := swf4 BK320.out))
   refine bodyPost_ret (results_ct rfl _ _ gb320 80 #[.int .i64 0, .int .i64 0, .int .i64 0, .bool false] (0, 0) _ rfl (by refine blk_put (cs := #[.int .i64 0, .int .i64 0, .int .i64 0, .bool false]) ?_ 3 _ rfl; refine blk_put (cs := #[.int .i64 0, .int .i64 0, .int .i64 0, .bool false]) ?_ 2 _ rfl; refine blk_put (cs := #[.int .i64 0, .int .i64 0, .int .i64 0, .bool false]) ?_ 1 _ rfl; refine blk_put (cs := #[.int .i64 0, .int .i64 0, .int .i64 0, .bool false]) ?_ 0 _ rfl; refine blk_far ?_ NB320_339.out _; refine blk_far ?_ NB320_339.out _; refine blk_far ?_ NB320_339.out _; refine blk_far ?_ NB320_339.out _; exact BK320.out) Try.underlying80 rfl (by kernel_rfl)) rfl ?_
   exact ⟨by rfl, by repeat ((with_reducible first | exact HB.out | refine below_set ?_ GE320.out | refine below_set ?_ GE339.out))⟩
  rw [if_neg c46] at H
  have c46b0 : (t334 == (-3)) = false := beq_eq_false_iff_ne.mpr c46
  have c46b1 : (t334 != (-3)) = true := bne_iff_ne.mpr c46
  replace H := bS H
  obtain ⟨⟨t340, t341, t342, t343, t344⟩, A550, H⟩ := H
  replace H : (some (t340, t341, t342, t343, t344)) = some (r1, r2, r3, r4, r5) := H
  have A55 := aM A550
  clear A550
  simp only [Option.some.injEq, Prod.mk.injEq] at H
  obtain ⟨rfl, rfl, rfl, rfl, rfl⟩ := H
  have hnb56 := NB319_320.out
  have hnc56 := NB320_319.out
  obtain ⟨hcz57_0, hcz57_1, hcz57_2, hcz57_3, hcz57_4, hcz57_5⟩ := swc6 BK319.out
  obtain ⟨hfz57_0, hfz57_1, hfz57_2, hfz57_3, hfz57_4, hfz57_5⟩ := swf6 BK319.out
  go_wp2_with (first | (go_at_call 81; (with_reducible refine (ih kj30 (by have := HJ30.out; omega) _ _ l0_0 _ _ l0_1 _ _ l0_2 _ _ l0_3 _ _ l0_4 _ _ l0_5 _ _ l1 _ _ l2 _ _ l3 (rd l3 a4) (wrap64 (a5 + 1)) t334 t335 t336 t337 true _ (Kd.C_below HR0_0.out HB.out) HC0_0.out (Kd.C_below HR0_1.out HB.out) HC0_1.out (Kd.C_below HR0_2.out HB.out) HC0_2.out (Kd.C_below HR0_3.out HB.out) HC0_3.out (Kd.C_below HR0_4.out HB.out) HC0_4.out (Kd.C_below HR0_5.out HB.out) HC0_5.out (Kd.C_below HR1.out HB.out) HC1.out (Kd.C_below HR2.out HB.out) HC2.out (Kd.C_below HR3.out HB.out) HC3.out A44.out).mono ?_); rintro e w58 ⟨rfl, hb⟩; replace BK319 := aK BK319 hb; replace BK320 := aK BK320 hb; replace HB := aB HB hb; (try clear hb)) | ((with_reducible refine gate_dst (N := 16) rfl ?_); refine box_event rfl (N := 16) rfl (cs := #[.int .i64 0, .int .i64 0, .int .i64 0, .bool false]) (t := 80) (by go_simp; done) ?_; intro gb339 hg w59 hbox hb; have BK339 := aM (hbox); have GW339 := bGE HB.out hg; have GE339 := bGE HB.out hg; replace HB := aB HB hb; have NB319_339 := bLT BK319.out hg; have NB339_319 := bGT BK319.out hg; replace BK319 := aK BK319 hb; have NB320_339 := bLT BK320.out hg; have NB339_320 := bGT BK320.out hg; replace BK320 := aK BK320 hb; clear hb hbox hg; have hnb60 := NB339_319.out; have hnc60 := NB319_339.out; have hnb61 := NB339_320.out; have hnc61 := NB320_339.out; obtain ⟨hcz62_0, hcz62_1, hcz62_2, hcz62_3⟩ := swc4 BK339.out; obtain ⟨hfz62_0, hfz62_1, hfz62_2, hfz62_3⟩ := swf4 BK339.out; obtain ⟨hcz63_0, hcz63_1, hcz63_2, hcz63_3, hcz63_4, hcz63_5⟩ := swc6 BK319.out; obtain ⟨hfz63_0, hfz63_1, hfz63_2, hfz63_3, hfz63_4, hfz63_5⟩ := swf6 BK319.out) | (go_at_call 105; (with_reducible refine (impl_imported.calls kj30 _ _ l0_0 _ _ l0_1 _ _ l0_2 _ _ l0_3 _ _ l0_4 _ _ l0_5 a4 (rd l3 a4) t334 t335 t336 t337 t340 t341 t342 t343 t344 _ (Kd.C_below HR0_0.out (by repeat ((with_reducible first | exact HB.out | refine below_set ?_ GE339.out)))) HC0_0.out (Kd.C_below HR0_1.out (by repeat ((with_reducible first | exact HB.out | refine below_set ?_ GE339.out)))) HC0_1.out (Kd.C_below HR0_2.out (by repeat ((with_reducible first | exact HB.out | refine below_set ?_ GE339.out)))) HC0_2.out (Kd.C_below HR0_3.out (by repeat ((with_reducible first | exact HB.out | refine below_set ?_ GE339.out)))) HC0_3.out (Kd.C_below HR0_4.out (by repeat ((with_reducible first | exact HB.out | refine below_set ?_ GE339.out)))) HC0_4.out (Kd.C_below HR0_5.out (by repeat ((with_reducible first | exact HB.out | refine below_set ?_ GE339.out)))) HC0_5.out A55.out).mono ?_); rintro e w64 ⟨rfl, hb⟩; replace BK319 := aM (blk_below (g := gb319) (o := .cells #[.slice A0_0 l0_0.length c0_0, .slice A0_1 l0_1.length c0_1, .slice A0_2 l0_2.length c0_2, .slice A0_3 l0_3.length c0_3, .slice A0_4 l0_4.length c0_4, .slice A0_5 l0_5.length c0_5] 38 (0, 0)) (by refine blk_far ?_ NB319_339.out _; refine blk_far ?_ NB319_339.out _; refine blk_far ?_ NB319_339.out _; refine blk_far ?_ NB319_339.out _; exact BK319.out) hb); replace BK320 := aM (blk_below (g := gb320) (o := .cells #[.int .i64 0, .int .i64 0, .int .i64 0, .bool false] 80 (0, 0)) (by refine blk_far ?_ NB320_339.out _; refine blk_far ?_ NB320_339.out _; refine blk_far ?_ NB320_339.out _; refine blk_far ?_ NB320_339.out _; exact BK320.out) hb); replace BK339 := aM (blk_below (g := gb339) (o := .cells #[.int .i64 t334, .int .i64 t335, .int .i64 t336, .bool t337] 80 (0, 0)) (by refine blk_put (cs := #[.int .i64 t334, .int .i64 t335, .int .i64 t336, .bool false]) ?_ 3 _ rfl; refine blk_put (cs := #[.int .i64 t334, .int .i64 t335, .int .i64 0, .bool false]) ?_ 2 _ rfl; refine blk_put (cs := #[.int .i64 t334, .int .i64 0, .int .i64 0, .bool false]) ?_ 1 _ rfl; refine blk_put (cs := #[.int .i64 0, .int .i64 0, .int .i64 0, .bool false]) ?_ 0 _ rfl; exact BK339.out) hb); replace HB := aM (below_step (by repeat ((with_reducible first | exact HB.out | refine below_set ?_ GE339.out))) hb); (try clear hb); obtain ⟨hcz65_0, hcz65_1, hcz65_2, hcz65_3⟩ := swc4 BK320.out; obtain ⟨hfz65_0, hfz65_1, hfz65_2, hfz65_3⟩ := swf4 BK320.out))
  refine bodyPost_ret (results_ct rfl _ _ gb320 80 #[.int .i64 t340, .int .i64 t341, .int .i64 t342, .bool t343] (0, 0) _ rfl (by refine blk_put (cs := #[.int .i64 t340, .int .i64 t341, .int .i64 t342, .bool false]) ?_ 3 _ rfl; refine blk_put (cs := #[.int .i64 t340, .int .i64 t341, .int .i64 0, .bool false]) ?_ 2 _ rfl; refine blk_put (cs := #[.int .i64 t340, .int .i64 0, .int .i64 0, .bool false]) ?_ 1 _ rfl; refine blk_put (cs := #[.int .i64 0, .int .i64 0, .int .i64 0, .bool false]) ?_ 0 _ rfl; exact BK320.out) Try.underlying80 rfl (by kernel_rfl)) rfl ?_
  exact ⟨by rfl, by repeat ((with_reducible first | exact HB.out | refine below_set ?_ GE320.out))⟩
def impl_routesOf.l0 : Nat → List Int → List Bool → List Int → List (S80) → Int → Int → List ByteArray → List (S92) → List Int → List Int → List (S95) → List (S97) → Option ((List (S80)) × Bool)
 | 0, _, _, _, _, _, _, _, _, _, _, _, _ => none
 | k + 1, x1, x2, x3, x10, x15, x16, x346000, x346001, x346002, x346003, x346004, x346005 => if x16 < x15 then ((impl_routeOf.f k x346000 x346001 x346002 x346003 x346004 x346005 x1 x2 x3 x16 0).bind fun bt346 => (if bt346.2.2.2.2 = true then (if x10.length < 4398046511104 then (impl_routesOf.l0 k x1 x2 x3 (x10 ++ [(⟨bt346.1, bt346.2.1, bt346.2.2.1, bt346.2.2.2.1⟩ : S80)]) x15 (wrap64 (x16 + 1)) x346000 x346001 x346002 x346003 x346004 x346005) else (none)) else (some (([] : List (S80)), false)))) else (some (x10, true))
def impl_routesOf.f (k : Nat) (l0_0 : List ByteArray) (l0_1 : List (S92)) (l0_2 : List Int) (l0_3 : List Int) (l0_4 : List (S95)) (l0_5 : List (S97)) (l1 : List Int) (l2 : List Bool) (l3 : List Int) : Option ((List (S80)) × Bool) := impl_routesOf.l0 k l1 l2 l3 ([] : List (S80)) (l3.length : Int) 0 l0_0 l0_1 l0_2 l0_3 l0_4 l0_5
theorem impl_routesOf.calls (k : Nat) (A0_0 : Option Addr) (c0_0 : Nat) (l0_0 : List ByteArray) (A0_1 : Option Addr) (c0_1 : Nat) (l0_1 : List (S92)) (A0_2 : Option Addr) (c0_2 : Nat) (l0_2 : List Int) (A0_3 : Option Addr) (c0_3 : Nat) (l0_3 : List Int) (A0_4 : Option Addr) (c0_4 : Nat) (l0_4 : List (S95)) (A0_5 : Option Addr) (c0_5 : Nat) (l0_5 : List (S97)) (A1 : Option Addr) (c1 : Nat) (l1 : List Int) (A2 : Option Addr) (c2 : Nat) (l2 : List Bool) (A3 : Option Addr) (c3 : Nat) (l3 : List Int) (r1 : List (S80)) (r2 : Bool) (w : World) (hr0_0 : Kd.C Kd.string w A0_0 l0_0.length l0_0) (hc0_0 : l0_0.length ≤ c0_0) (hr0_1 : Kd.C k92 w A0_1 l0_1.length l0_1) (hc0_1 : l0_1.length ≤ c0_1) (hr0_2 : Kd.C (Kd.int .i64) w A0_2 l0_2.length l0_2) (hc0_2 : l0_2.length ≤ c0_2) (hr0_3 : Kd.C (Kd.int .i64) w A0_3 l0_3.length l0_3) (hc0_3 : l0_3.length ≤ c0_3) (hr0_4 : Kd.C k95 w A0_4 l0_4.length l0_4) (hc0_4 : l0_4.length ≤ c0_4) (hr0_5 : Kd.C k97 w A0_5 l0_5.length l0_5) (hc0_5 : l0_5.length ≤ c0_5) (hr1 : Kd.C (Kd.int .i64) w A1 l1.length l1) (hc1 : l1.length ≤ c1) (hr2 : Kd.C Kd.bool w A2 l2.length l2) (hc2 : l2.length ≤ c2) (hr3 : Kd.C (Kd.int .i64) w A3 l3.length l3) (hc3 : l3.length ≤ c3) (h : impl_routesOf.f k l0_0 l0_1 l0_2 l0_3 l0_4 l0_5 l1 l2 l3 = some (r1, r2)) :
  Calls Try.prog 48 #[.agg #[.slice A0_0 l0_0.length c0_0, .slice A0_1 l0_1.length c0_1, .slice A0_2 l0_2.length c0_2, .slice A0_3 l0_3.length c0_3, .slice A0_4 l0_4.length c0_4, .slice A0_5 l0_5.length c0_5], .slice A1 l1.length c1, .slice A2 l2.length c2, .slice A3 l3.length c3] w fun e w' => ∃ v0_ : Value, e = .returned (.tuple #[v0_, .bool r2]) ∧ Kd.R k80 80 w' w.heap.size (fun _ => True) v0_ r1 ∧ Below w.heap.size w w' := by
 have hu38 := Try.underlying38
 have hu80 := Try.underlying80
 obtain ⟨HR0_0, HC0_0, HR0_1, HC0_1, HR0_2, HC0_2, HR0_3, HC0_3, HR0_4, HC0_4, HR0_5, HC0_5⟩ := as12 hr0_0 hc0_0 hr0_1 hc0_1 hr0_2 hc0_2 hr0_3 hc0_3 hr0_4 hc0_4 hr0_5 hc0_5
 clear hr0_0 hc0_0 hr0_1 hc0_1 hr0_2 hc0_2 hr0_3 hc0_3 hr0_4 hc0_4 hr0_5 hc0_5
 have HR1 := aM hr1
 have HC1 := aM hc1
 clear hr1 hc1
 have HR2 := aM hr2
 have HC2 := aM hc2
 clear hr2 hc2
 have HR3 := aM hr3
 have HC3 := aM hc3
 clear hr3 hc3
 have HB := aM (Below.refl w.heap.size w)
 have H : (impl_routesOf.l0 k l1 l2 l3 ([] : List (S80)) (l3.length : Int) 0 l0_0 l0_1 l0_2 l0_3 l0_4 l0_5) = some (r1, r2) := h
 clear h
 have H' := aM H
 clear H
 go_enter Try.func48, Try.ntmps48
 go_wp2_with (((with_reducible refine gate_dst (N := 4) rfl ?_); refine box_event rfl (N := 4) rfl (cs := #[.slice A0_0 l0_0.length c0_0, .slice A0_1 l0_1.length c0_1, .slice A0_2 l0_2.length c0_2, .slice A0_3 l0_3.length c0_3, .slice A0_4 l0_4.length c0_4, .slice A0_5 l0_5.length c0_5]) (t := 38) (by go_simp; done) ?_; intro gb345 hg w5 hbox hb; have BK345 := aM (hbox); have GW345 := bGE HB.out hg; have GE345 := bGE HB.out hg; replace HB := aB HB hb; clear hb hbox hg))
 go_loopg [10, 16] k (fun kq v10 v16 w' => ∃ (x10_1 : List (S80)) (x16_1 : Int), v16 = .int .i64 x16_1 ∧ Aside0 (impl_routesOf.l0 kq l1 l2 l3 x10_1 (l3.length : Int) x16_1 l0_0 l0_1 l0_2 l0_3 l0_4 l0_5 = some (r1, r2)) ∧ Aside0 (kq ≤ k) ∧ Aside0 (Kd.R k80 80 w' w.heap.size (fun _ => True) v10 x10_1) ∧ Aside0 (w'.heap[gb345]? = some (.cells #[(.slice A0_0 l0_0.length c0_0), (.slice A0_1 l0_1.length c0_1), (.slice A0_2 l0_2.length c0_2), (.slice A0_3 l0_3.length c0_3), (.slice A0_4 l0_4.length c0_4), (.slice A0_5 l0_5.length c0_5)] 38 (0, 0))) ∧ Aside0 (Below w.heap.size w w'))
 case atStart => exact ⟨(([] : List (S80))), (0), (by rfl), H', ⟨Nat.le_refl _⟩, ⟨by exact Kd.R_nil _ _ _ _ _⟩, ⟨by exact BK345.out⟩, ⟨by repeat ((with_reducible exact HB.out))⟩⟩
 clear H'
 obtain ⟨x10_1, x16_1, rfl, HA, HK1, HO_10, BK345, HB⟩ := hrel
 cases gk with
 | zero => exact absurd HA.out (by simp [impl_routesOf.l0])
 | succ k1 =>
  have H := HA.out
  clear HA
  simp only [impl_routesOf.l0] at H
  by_cases c6 : x16_1 < (l3.length : Int)
  rotate_left
  ·rw [if_neg c6] at H
   have c6b0 : decide (x16_1 < (l3.length : Int)) = false := decide_eq_false c6
   clear c6
   simp only [Option.some.injEq, Prod.mk.injEq] at H
   obtain ⟨rfl, rfl⟩ := H
   go_wp2
   go_ret2
   exact ⟨_, by rfl, by exact HO_10.out, by repeat ((with_reducible exact HB.out))⟩
  rw [if_pos c6] at H
  have c6b0 : decide (x16_1 < (l3.length : Int)) = true := decide_eq_true c6
  clear c6
  replace H := bS H
  obtain ⟨⟨t346, t347, t348, t349, t350⟩, A70, H⟩ := H
  replace H : (if t350 = true then (if x10_1.length < 4398046511104 then (impl_routesOf.l0 k1 l1 l2 l3 (x10_1 ++ [(⟨t346, t347, t348, t349⟩ : S80)]) (l3.length : Int) (wrap64 (x16_1 + 1)) l0_0 l0_1 l0_2 l0_3 l0_4 l0_5) else (none)) else (some (([] : List (S80)), false))) = some (r1, r2) := H
  have A7 := aM A70
  clear A70
  by_cases c8 : t350 = true
  rotate_left
  ·replace c8 := Bool.eq_false_iff.mpr c8
   subst c8
   rw [if_neg (show ¬ (false = true) by decide)] at H
   simp only [Option.some.injEq, Prod.mk.injEq] at H
   obtain ⟨rfl, rfl⟩ := H
   obtain ⟨hcz16_0, hcz16_1, hcz16_2, hcz16_3, hcz16_4, hcz16_5⟩ := swc6 BK345.out
   obtain ⟨hfz16_0, hfz16_1, hfz16_2, hfz16_3, hfz16_4, hfz16_5⟩ := swf6 BK345.out
   go_wp2_with (first | (go_at_call 81; (with_reducible refine (impl_routeOf.calls k1 _ _ l0_0 _ _ l0_1 _ _ l0_2 _ _ l0_3 _ _ l0_4 _ _ l0_5 _ _ l1 _ _ l2 _ _ l3 x16_1 0 t346 t347 t348 t349 false _ (Kd.C_below HR0_0.out HB.out) HC0_0.out (Kd.C_below HR0_1.out HB.out) HC0_1.out (Kd.C_below HR0_2.out HB.out) HC0_2.out (Kd.C_below HR0_3.out HB.out) HC0_3.out (Kd.C_below HR0_4.out HB.out) HC0_4.out (Kd.C_below HR0_5.out HB.out) HC0_5.out (Kd.C_below HR1.out HB.out) HC1.out (Kd.C_below HR2.out HB.out) HC2.out (Kd.C_below HR3.out HB.out) HC3.out A7.out).mono ?_); rintro e w17 ⟨rfl, hb⟩; replace HO_10 := aM (Kd.R_below HO_10.out hb); replace BK345 := aK BK345 hb; replace HB := aB HB hb; (try clear hb)) | ((with_reducible refine gate_dst (N := 12) rfl ?_); refine box_event rfl (N := 12) rfl (cs := #[.int .i64 0, .int .i64 0, .int .i64 0, .bool false]) (t := 80) (by go_simp; done) ?_; intro gb351 hg w18 hbox hb; replace HO_10 := aM (Kd.R_below (Kd.R_elderB HO_10.out gb351 (Nat.le_of_eq hg.symm)) hb); have BK351 := aM (hbox); have GW351 := bGE HB.out hg; have GE351 := bGE HB.out hg; replace HB := aB HB hb; have NB345_351 := bLT BK345.out hg; have NB351_345 := bGT BK345.out hg; replace BK345 := aK BK345 hb; clear hb hbox hg; have hnb19 := NB351_345.out; have hnc19 := NB345_351.out; obtain ⟨hcz20_0, hcz20_1, hcz20_2, hcz20_3⟩ := swc4 BK351.out; obtain ⟨hfz20_0, hfz20_1, hfz20_2, hfz20_3⟩ := swf4 BK351.out))
   go_ret2
   exact ⟨_, by rfl, by exact Kd.R_nil _ _ _ _ _, by repeat ((with_reducible first | exact HB.out | refine below_set ?_ GE351.out))⟩
  subst c8
  rw [if_pos rfl] at H
  by_cases c9 : x10_1.length < 4398046511104
  rotate_left
  ·rw [if_neg c9] at H
   exact absurd H (by simp)
  rw [if_pos c9] at H
  have LMc9 := aM c9
  clear c9
  obtain ⟨y352, hy352⟩ : ∃ y_ : List (S80), y_ = (x10_1 ++ [(⟨t346, t347, t348, t349⟩ : S80)]) := ⟨_, rfl⟩
  replace H : (impl_routesOf.l0 k1 l1 l2 l3 y352 (l3.length : Int) (wrap64 (x16_1 + 1)) l0_0 l0_1 l0_2 l0_3 l0_4 l0_5) = some (r1, r2) := by (rw [hy352]; with_reducible exact H)
  have Ny352 := aM hy352
  clear hy352
  have H' := aM H
  clear H
  obtain ⟨hcz10_0, hcz10_1, hcz10_2, hcz10_3, hcz10_4, hcz10_5⟩ := swc6 BK345.out
  obtain ⟨hfz10_0, hfz10_1, hfz10_2, hfz10_3, hfz10_4, hfz10_5⟩ := swf6 BK345.out
  go_wp2_with (first | (go_at_call 81; (with_reducible refine (impl_routeOf.calls k1 _ _ l0_0 _ _ l0_1 _ _ l0_2 _ _ l0_3 _ _ l0_4 _ _ l0_5 _ _ l1 _ _ l2 _ _ l3 x16_1 0 t346 t347 t348 t349 true _ (Kd.C_below HR0_0.out HB.out) HC0_0.out (Kd.C_below HR0_1.out HB.out) HC0_1.out (Kd.C_below HR0_2.out HB.out) HC0_2.out (Kd.C_below HR0_3.out HB.out) HC0_3.out (Kd.C_below HR0_4.out HB.out) HC0_4.out (Kd.C_below HR0_5.out HB.out) HC0_5.out (Kd.C_below HR1.out HB.out) HC1.out (Kd.C_below HR2.out HB.out) HC2.out (Kd.C_below HR3.out HB.out) HC3.out A7.out).mono ?_); rintro e w11 ⟨rfl, hb⟩; replace HO_10 := aM (Kd.R_below HO_10.out hb); replace BK345 := aK BK345 hb; replace HB := aB HB hb; (try clear hb)) | ((with_reducible refine gate_dst (N := 12) rfl ?_); refine box_event rfl (N := 12) rfl (cs := #[.int .i64 0, .int .i64 0, .int .i64 0, .bool false]) (t := 80) (by go_simp; done) ?_; intro gb351 hg w12 hbox hb; replace HO_10 := aM (Kd.R_below (Kd.R_elderB HO_10.out gb351 (Nat.le_of_eq hg.symm)) hb); have BK351 := aM (hbox); have GW351 := bGE HB.out hg; have GE351 := bGE HB.out hg; replace HB := aB HB hb; have NB345_351 := bLT BK345.out hg; have NB351_345 := bGT BK345.out hg; replace BK345 := aK BK345 hb; clear hb hbox hg; have hnb13 := NB351_345.out; have hnc13 := NB345_351.out; obtain ⟨hcz14_0, hcz14_1, hcz14_2, hcz14_3⟩ := swc4 BK351.out; obtain ⟨hfz14_0, hfz14_1, hfz14_2, hfz14_3⟩ := swf4 BK351.out) | ((with_reducible refine gate_builtin (b := .append) (xs := #[.tmp 30, .tmp 32]) rfl ?_); at_builtin; refine Kd.R_append k80 (w0 := w) w.heap.size rfl (.tmp 30) (.tmp 32) 31 80 (.agg #[(.int .i64 0), (.int .i64 0), (.int .i64 0), (.bool false)]) 32 rfl Try.underlying31 info80 rfl (by decide) (by omega) u10 x10_1 (⟨t346, t347, t348, t349⟩ : S80) [.int .i64 t346, .int .i64 t347, .int .i64 t348, .bool t349] (fun k_ => k_ ≠ gb351) (fun _ => False) rfl (by (go_simp; done)) ?aP (fun _ hk => hk.elim) ?aF ?aO ?aB ?aS ?aL ?_; (case aP => exact k80_mkM _ _ _ (⟨t346, t347, t348, t349⟩ : S80)); (case aB => exact (by repeat ((with_reducible first | exact HB.out | refine below_set ?_ GE351.out)))); (case aF => exact (fun k_ hk => Kd.freshB (g := gb351) (o := .cells #[.int .i64 t346, .int .i64 t347, .int .i64 t348, .bool t349] 80 (0, 0)) (by refine blk_put (cs := #[.int .i64 t346, .int .i64 t347, .int .i64 t348, .bool false]) ?_ 3 _ rfl; refine blk_put (cs := #[.int .i64 t346, .int .i64 t347, .int .i64 0, .bool false]) ?_ 2 _ rfl; refine blk_put (cs := #[.int .i64 t346, .int .i64 0, .int .i64 0, .bool false]) ?_ 1 _ rfl; refine blk_put (cs := #[.int .i64 0, .int .i64 0, .int .i64 0, .bool false]) ?_ 0 _ rfl; exact BK351.out) k_ hk)); (case aO => exact (by exact Kd.R_mono (Kd.R_far (p := ⟨gb351, 3, none⟩) (Kd.R_far (p := ⟨gb351, 2, none⟩) (Kd.R_far (p := ⟨gb351, 1, none⟩) (Kd.R_far (p := ⟨gb351, 0, none⟩) (Kd.R_mono HO_10.out (fun k_ hk => (⟨hk, hk.2⟩ : _ ∧ k_ ≠ gb351))) (fun _ hk => hk.2) (.int .i64 t346)) (fun _ hk => hk.2) (.int .i64 t347)) (fun _ hk => hk.2) (.int .i64 t348)) (fun _ hk => hk.2) (.bool t349)) (fun _ hk => hk.1.2))); (case aS => exact (below_size (by repeat ((with_reducible first | exact HB.out | refine below_set ?_ GE351.out))))); (case aL => have := LMc9.out; omega); intro v353 w15 ho hb hg hat; rw [← Ny352.out] at ho; replace BK345 := aM (blk_grown (g := gb345) (o := .cells #[.slice A0_0 l0_0.length c0_0, .slice A0_1 l0_1.length c0_1, .slice A0_2 l0_2.length c0_2, .slice A0_3 l0_3.length c0_3, .slice A0_4 l0_4.length c0_4, .slice A0_5 l0_5.length c0_5] 38 (0, 0)) (by refine blk_far ?_ NB345_351.out _; refine blk_far ?_ NB345_351.out _; refine blk_far ?_ NB345_351.out _; refine blk_far ?_ NB345_351.out _; exact BK345.out) hg (Kd.R_ne HO_10.out BK345.out (by decide))); replace BK351 := aM (blk_grown (g := gb351) (o := .cells #[.int .i64 t346, .int .i64 t347, .int .i64 t348, .bool t349] 80 (0, 0)) (by refine blk_put (cs := #[.int .i64 t346, .int .i64 t347, .int .i64 t348, .bool false]) ?_ 3 _ rfl; refine blk_put (cs := #[.int .i64 t346, .int .i64 t347, .int .i64 0, .bool false]) ?_ 2 _ rfl; refine blk_put (cs := #[.int .i64 t346, .int .i64 0, .int .i64 0, .bool false]) ?_ 1 _ rfl; refine blk_put (cs := #[.int .i64 0, .int .i64 0, .int .i64 0, .bool false]) ?_ 0 _ rfl; exact BK351.out) hg (Kd.R_away HO_10.out (fun _ hk => hk.2))); replace HB := aM (hb); have HO354 := aM (ho); clear HO_10; clear ho hb hg hat))
  go_roundg k1
  case measure => have := HK1.out; omega
  case rel => exact ⟨(y352), (wrap64 (x16_1 + 1)), (by rfl), H', ⟨by have := HK1.out; omega⟩, ⟨by exact Kd.R_mono HO354.out (fun _ hk => trivial)⟩, ⟨by exact BK345.out⟩, ⟨by repeat ((with_reducible exact HB.out))⟩⟩
end Go.Proofs.Ytgibacfgjmdjdaa.PFnExactIsStable
end
section
namespace Go.Proofs.Ytgibacfgjmdjdaa.PFnExactIsStable
open Go.RowKit Go.Proofs.YtgibacfgjmdjdaaW.PrintWords Go.Proofs.YtgibacfgjmdjdaaW.PrintLast Go.Proofs.YtgibacfgjmdjdaaW.PrintMore
attribute [local go_sem] max2_int min2_int max_two min_two max_three min_three max_four min_four   -- for this text's walks alone
set_option linter.unusedVariables false
set_option linter.unusedSimpArgs false
theorem fn79 (A0_0 : Option Addr) (c0_0 : Nat) (l0_0 : List ByteArray) (A0_1 : Option Addr) (c0_1 : Nat) (l0_1 : List S92) (A0_2 : Option Addr) (c0_2 : Nat) (l0_2 : List Int) (A0_3 : Option Addr) (c0_3 : Nat) (l0_3 : List Int) (A0_4 : Option Addr) (c0_4 : Nat) (l0_4 : List S95) (A0_5 : Option Addr) (c0_5 : Nat) (l0_5 : List S97) (v : Int) (gn : Nat) (W : World) (hmx : l0_0.length ≤ 9223372036854775807) (hn : W.heap[gn]? = some (.cells #[.slice A0_0 l0_0.length c0_0, .slice A0_1 l0_1.length c0_1, .slice A0_2 l0_2.length c0_2, .slice A0_3 l0_3.length c0_3, .slice A0_4 l0_4.length c0_4, .slice A0_5 l0_5.length c0_5] 38 (0, 0))) : Calls Try.prog 79 #[.int .i64 v, .pointer (some ⟨gn, 0, none⟩)] W fun e W' => e = .returned (.bool (!(decide (-3 ≤ v) && decide (v ≤ (l0_0.length : Int) - 1)))) ∧ Below W.heap.size W W' := by
 have hin : impl_within.f v (-3) ((l0_0.length : Int) - 1) = some (decide (-3 ≤ v) && decide (v ≤ (l0_0.length : Int) - 1)) := by
  unfold impl_within.f
  by_cases h : v ≥ -3
  ·rw [if_pos h, decide_eq_true (show -3 ≤ v from h), Bool.true_and]
  rw [if_neg h, decide_eq_false (show ¬ -3 ≤ v from h), Bool.false_and]
 have ew : IntKind.i64.wrap ((l0_0.length : Int) - 1) = (l0_0.length : Int) - 1 := IntWalk.i64_in _ (by omega)
 have ew2 : wrap64 ((l0_0.length : Int) - 1) = (l0_0.length : Int) - 1 := by unfold wrap64; omega
 have hcall := fun V => impl_within.calls v (-3) ((l0_0.length : Int) - 1) _ V hin
 have hu38 := Try.underlying38
 have hu22 := Try.underlying22
 obtain ⟨hx0, hx1, hx2, hx3, hx4, hx5⟩ := box6 hn
 clear hn
 generalize (decide (-3 ≤ v) && decide (v ≤ (l0_0.length : Int) - 1)) = b at hcall ⊢
 go_enter Try.func79, Try.ntmps79
 go_wp2_with (go_at_call 80; refine (hcall _).mono ?_; rintro e w' ⟨rfl, hd⟩)
 go_ret
 exact ⟨rfl, hd.below⟩
def viasB (n : Nat) (l : List Int) : Bool := decide (l.length = n) && !(l.any fun v => !(decide (-3 ≤ v) && decide (v ≤ (n : Int) - 1)))
def impl_areVias.f (l0_0 : List ByteArray) (l0_1 : List S92) (l0_2 : List Int) (l0_3 : List Int) (l0_4 : List S95) (l0_5 : List S97) (l1 : List Int) : Option Bool := some (viasB l0_0.length l1)
set_option maxHeartbeats 4000000 in
set_option maxRecDepth 100000 in
theorem impl_areVias.calls (A0_0 : Option Addr) (c0_0 : Nat) (l0_0 : List ByteArray) (A0_1 : Option Addr) (c0_1 : Nat) (l0_1 : List S92) (A0_2 : Option Addr) (c0_2 : Nat) (l0_2 : List Int) (A0_3 : Option Addr) (c0_3 : Nat) (l0_3 : List Int) (A0_4 : Option Addr) (c0_4 : Nat) (l0_4 : List S95) (A0_5 : Option Addr) (c0_5 : Nat) (l0_5 : List S97) (A1 : Option Addr) (c1 : Nat) (l1 : List Int) (r : Bool) (w : World) (hr0_0 : Kd.C Kd.string w A0_0 l0_0.length l0_0) (hc0_0 : l0_0.length ≤ c0_0) (hr0_1 : Kd.C k92 w A0_1 l0_1.length l0_1) (hc0_1 : l0_1.length ≤ c0_1) (hr0_2 : Kd.C (Kd.int .i64) w A0_2 l0_2.length l0_2) (hc0_2 : l0_2.length ≤ c0_2) (hr0_3 : Kd.C (Kd.int .i64) w A0_3 l0_3.length l0_3) (hc0_3 : l0_3.length ≤ c0_3) (hr0_4 : Kd.C k95 w A0_4 l0_4.length l0_4) (hc0_4 : l0_4.length ≤ c0_4) (hr0_5 : Kd.C k97 w A0_5 l0_5.length l0_5) (hc0_5 : l0_5.length ≤ c0_5) (hr1 : Kd.C (Kd.int .i64) w A1 l1.length l1) (hc1 : l1.length ≤ c1) (h : impl_areVias.f l0_0 l0_1 l0_2 l0_3 l0_4 l0_5 l1 = some r) :
  Calls Try.prog 47 #[.agg #[.slice A0_0 l0_0.length c0_0, .slice A0_1 l0_1.length c0_1, .slice A0_2 l0_2.length c0_2, .slice A0_3 l0_3.length c0_3, .slice A0_4 l0_4.length c0_4, .slice A0_5 l0_5.length c0_5], .slice A1 l1.length c1] w fun e w' => e = .returned (.bool r) ∧ Below w.heap.size w w' := by
 obtain rfl : viasB l0_0.length l1 = r := Option.some.inj h
 clear h
 unfold viasB
 have hu38 := Try.underlying38
 have hmx := Kd.C_max hr0_0
 have HC : Aside0 (∀ (gn : Nat) (V : World), Below w.heap.size w V → V.heap[gn]? = some (.cells #[.slice A0_0 l0_0.length c0_0, .slice A0_1 l0_1.length c0_1, .slice A0_2 l0_2.length c0_2, .slice A0_3 l0_3.length c0_3, .slice A0_4 l0_4.length c0_4, .slice A0_5 l0_5.length c0_5] 38 (0, 0)) → Calls Try.prog 78 #[.slice A1 l1.length c1, .func (.func 79) #[] #[.pointer (some ⟨gn, 0, none⟩)]] V fun e w' => e = .returned (.bool (l1.any fun v => !(decide (-3 ≤ v) && decide (v ≤ (l0_0.length : Int) - 1)))) ∧ Below V.heap.size V w') := ⟨fun gn V hV hg => anyIntL (fun v => !(decide (-3 ≤ v) && decide (v ≤ (l0_0.length : Int) - 1))) 79 #[.pointer (some ⟨gn, 0, none⟩)] (enters_of Try.func79 (by kernel_rfl) rfl) A1 l1 c1 V (Kd.C_below hr1 hV) (fun x W hW => fn79 A0_0 c0_0 l0_0 A0_1 c0_1 l0_1 A0_2 c0_2 l0_2 A0_3 c0_3 l0_3 A0_4 c0_4 l0_4 A0_5 c0_5 l0_5 x gn W hmx (blk_below hg hW))⟩
 clear hr1 hc1 hmx hr0_0 hc0_0 hr0_1 hc0_1 hr0_2 hc0_2 hr0_3 hc0_3 hr0_4 hc0_4 hr0_5 hc0_5
 generalize (l1.any fun v => !(decide (-3 ≤ v) && decide (v ≤ (l0_0.length : Int) - 1))) = b at HC ⊢
 have HB := aM (Below.refl w.heap.size w)
 by_cases hA : l1.length = l0_0.length
 rotate_left
 ·rw [decide_eq_false hA, Bool.false_and]
  have hA1 : ((l1.length : Int) == (l0_0.length : Int)) = false := beq_eq_false_iff_ne.2 (fun h => hA (Int.ofNat.inj h))
  have hA2 : ¬ (l1.length : Int) = (l0_0.length : Int) := fun h => hA (Int.ofNat.inj h)
  clear HC
  go_enter Try.func47, Try.ntmps47
  go_wp2_with (((with_reducible refine gate_dst (N := 2) rfl ?_); refine box_event rfl (N := 2) rfl (cs := #[.slice A0_0 l0_0.length c0_0, .slice A0_1 l0_1.length c0_1, .slice A0_2 l0_2.length c0_2, .slice A0_3 l0_3.length c0_3, .slice A0_4 l0_4.length c0_4, .slice A0_5 l0_5.length c0_5]) (t := 38) (by go_simp; done) ?_; intro gN hg_ wN hbox hbb; have GEN := aM (show w.heap.size ≤ gN by rw [hg_]; exact HB.out.size); replace HB := aM (HB.out.trans (hbb.mono HB.out.size)); clear hbb hg_; have BN := aM hbox; clear hbox; obtain ⟨cN0, cN1, cN2, cN3, cN4, cN5⟩ := box6 BN.out))
  go_ret
  exact ⟨rfl, HB.out⟩
 rw [decide_eq_true hA, Bool.true_and]
 rw [hA] at HC ⊢
 clear hA
 go_enter Try.func47, Try.ntmps47
 go_wp2_with (first | ((with_reducible refine gate_dst (N := 2) rfl ?_); refine box_event rfl (N := 2) rfl (cs := #[.slice A0_0 l0_0.length c0_0, .slice A0_1 l0_1.length c0_1, .slice A0_2 l0_2.length c0_2, .slice A0_3 l0_3.length c0_3, .slice A0_4 l0_4.length c0_4, .slice A0_5 l0_5.length c0_5]) (t := 38) (by go_simp; done) ?_; intro gN hg_ wN hbox hbb; have GEN := aM (show w.heap.size ≤ gN by rw [hg_]; exact HB.out.size); replace HB := aM (HB.out.trans (hbb.mono HB.out.size)); clear hbb hg_; have BN := aM hbox; clear hbox; obtain ⟨cN0, cN1, cN2, cN3, cN4, cN5⟩ := box6 BN.out) | (go_at_call 78; (with_reducible refine (HC.out _ _ HB.out BN.out).mono ?_); rintro e w5 ⟨rfl, hb⟩; clear cN0 cN1 cN2 cN3 cN4 cN5; replace HB := aB HB hb; replace BN := aK BN hb; clear hb; obtain ⟨cN0, cN1, cN2, cN3, cN4, cN5⟩ := box6 BN.out))
 go_ret
 exact ⟨rfl, HB.out⟩
def impl_RoutesOf.f (k : Nat) (l0_0 : List ByteArray) (l0_1 : List (S92)) (l0_2 : List Int) (l0_3 : List Int) (l0_4 : List (S95)) (l0_5 : List (S97)) (l1 : List Int) (l2 : List Bool) (l3 : List Int) : Option ((List (S80)) × Int) := if (l3.length : Int) > 4096 then (some (([] : List (S80)), 2)) else ((impl_routesCode.f k l0_0 l0_1 l0_2 l0_3 l0_4 l0_5 l1 l2 ([] : List (S80)) false).bind fun t356 => (if t356 = 0 then ((impl_areVias.f l0_0 l0_1 l0_2 l0_3 l0_4 l0_5 l3).bind fun t357 => (if t357 = true then ((impl_routesOf.f k l0_0 l0_1 l0_2 l0_3 l0_4 l0_5 l1 l2 l3).bind fun bt358 => (if bt358.2 = true then (some (bt358.1, 0)) else (some (([] : List (S80)), 6)))) else (some (([] : List (S80)), 5)))) else (some (([] : List (S80)), t356))))
set_option maxHeartbeats 8000000 in
set_option maxRecDepth 100000 in
theorem impl_RoutesOf.calls (k : Nat) (A0_0 : Option Addr) (c0_0 : Nat) (l0_0 : List ByteArray) (A0_1 : Option Addr) (c0_1 : Nat) (l0_1 : List (S92)) (A0_2 : Option Addr) (c0_2 : Nat) (l0_2 : List Int) (A0_3 : Option Addr) (c0_3 : Nat) (l0_3 : List Int) (A0_4 : Option Addr) (c0_4 : Nat) (l0_4 : List (S95)) (A0_5 : Option Addr) (c0_5 : Nat) (l0_5 : List (S97)) (A1 : Option Addr) (c1 : Nat) (l1 : List Int) (A2 : Option Addr) (c2 : Nat) (l2 : List Bool) (A3 : Option Addr) (c3 : Nat) (l3 : List Int) (r1 : List (S80)) (r2 : Int) (w : World) (hr0_0 : Kd.C Kd.string w A0_0 l0_0.length l0_0) (hc0_0 : l0_0.length ≤ c0_0) (hr0_1 : Kd.C k92 w A0_1 l0_1.length l0_1) (hc0_1 : l0_1.length ≤ c0_1) (hr0_2 : Kd.C (Kd.int .i64) w A0_2 l0_2.length l0_2) (hc0_2 : l0_2.length ≤ c0_2) (hr0_3 : Kd.C (Kd.int .i64) w A0_3 l0_3.length l0_3) (hc0_3 : l0_3.length ≤ c0_3) (hr0_4 : Kd.C k95 w A0_4 l0_4.length l0_4) (hc0_4 : l0_4.length ≤ c0_4) (hr0_5 : Kd.C k97 w A0_5 l0_5.length l0_5) (hc0_5 : l0_5.length ≤ c0_5) (hr1 : Kd.C (Kd.int .i64) w A1 l1.length l1) (hc1 : l1.length ≤ c1) (hr2 : Kd.C Kd.bool w A2 l2.length l2) (hc2 : l2.length ≤ c2) (hr3 : Kd.C (Kd.int .i64) w A3 l3.length l3) (hc3 : l3.length ≤ c3) (h : impl_RoutesOf.f k l0_0 l0_1 l0_2 l0_3 l0_4 l0_5 l1 l2 l3 = some (r1, r2)) :
  Calls Try.prog 13 #[.agg #[.slice A0_0 l0_0.length c0_0, .slice A0_1 l0_1.length c0_1, .slice A0_2 l0_2.length c0_2, .slice A0_3 l0_3.length c0_3, .slice A0_4 l0_4.length c0_4, .slice A0_5 l0_5.length c0_5], .slice A1 l1.length c1, .slice A2 l2.length c2, .slice A3 l3.length c3] w fun e w' => ∃ v0_ : Value, e = .returned (.tuple #[v0_, .int .i64 r2]) ∧ Kd.R k80 80 w' w.heap.size (fun _ => True) v0_ r1 ∧ Below w.heap.size w w' := by
 have hu38 := Try.underlying38
 obtain ⟨HR0_0, HC0_0, HR0_1, HC0_1, HR0_2, HC0_2, HR0_3, HC0_3, HR0_4, HC0_4, HR0_5, HC0_5⟩ := as12 hr0_0 hc0_0 hr0_1 hc0_1 hr0_2 hc0_2 hr0_3 hc0_3 hr0_4 hc0_4 hr0_5 hc0_5
 clear hr0_0 hc0_0 hr0_1 hc0_1 hr0_2 hc0_2 hr0_3 hc0_3 hr0_4 hc0_4 hr0_5 hc0_5
 have HR1 := aM hr1
 have HC1 := aM hc1
 clear hr1 hc1
 have HR2 := aM hr2
 have HC2 := aM hc2
 clear hr2 hc2
 have HR3 := aM hr3
 have HC3 := aM hc3
 clear hr3 hc3
 have HB := aM (Below.refl w.heap.size w)
 have H : (if (l3.length : Int) > 4096 then (some (([] : List (S80)), 2)) else ((impl_routesCode.f k l0_0 l0_1 l0_2 l0_3 l0_4 l0_5 l1 l2 ([] : List (S80)) false).bind fun t356 => (if t356 = 0 then ((impl_areVias.f l0_0 l0_1 l0_2 l0_3 l0_4 l0_5 l3).bind fun t357 => (if t357 = true then ((impl_routesOf.f k l0_0 l0_1 l0_2 l0_3 l0_4 l0_5 l1 l2 l3).bind fun bt358 => (if bt358.2 = true then (some (bt358.1, 0)) else (some (([] : List (S80)), 6)))) else (some (([] : List (S80)), 5)))) else (some (([] : List (S80)), t356))))) = some (r1, r2) := h
 clear h
 by_cases c5 : (l3.length : Int) > 4096
 ·rw [if_pos c5] at H
  have c5b0 : decide (4096 < (l3.length : Int)) = true := decide_eq_true c5
  have c5b1 : decide (4096 < l3.length) = true := decide_eq_true (by omega)
  clear c5
  simp only [Option.some.injEq, Prod.mk.injEq] at H
  obtain ⟨rfl, rfl⟩ := H
  go_enter Try.func13, Try.ntmps13
  go_wp2_with (((with_reducible refine gate_dst (N := 4) rfl ?_); refine box_event rfl (N := 4) rfl (cs := #[.slice A0_0 l0_0.length c0_0, .slice A0_1 l0_1.length c0_1, .slice A0_2 l0_2.length c0_2, .slice A0_3 l0_3.length c0_3, .slice A0_4 l0_4.length c0_4, .slice A0_5 l0_5.length c0_5]) (t := 38) (by go_simp; done) ?_; intro gb355 hg w6 hbox hb; have BK355 := aM (hbox); have GW355 := bGE HB.out hg; have GE355 := bGE HB.out hg; replace HB := aB HB hb; clear hb hbox hg))
  go_ret2
  exact ⟨_, by rfl, by exact Kd.R_nil _ _ _ _ _, by repeat ((with_reducible exact HB.out))⟩
 rw [if_neg c5] at H
 have c5b0 : decide (4096 < (l3.length : Int)) = false := decide_eq_false c5
 have c5b1 : decide (4096 < l3.length) = false := decide_eq_false (by omega)
 clear c5
 replace H := bS H
 obtain ⟨t356, A70, H⟩ := H
 replace H : (if t356 = 0 then ((impl_areVias.f l0_0 l0_1 l0_2 l0_3 l0_4 l0_5 l3).bind fun t357 => (if t357 = true then ((impl_routesOf.f k l0_0 l0_1 l0_2 l0_3 l0_4 l0_5 l1 l2 l3).bind fun bt358 => (if bt358.2 = true then (some (bt358.1, 0)) else (some (([] : List (S80)), 6)))) else (some (([] : List (S80)), 5)))) else (some (([] : List (S80)), t356))) = some (r1, r2) := H
 have A7 := aM A70
 clear A70
 by_cases c8 : t356 = 0
 rotate_left
 ·rw [if_neg c8] at H
  have c8b0 : (t356 == 0) = false := beq_eq_false_iff_ne.mpr c8
  have c8b1 : (t356 != 0) = true := bne_iff_ne.mpr c8
  simp only [Option.some.injEq, Prod.mk.injEq] at H
  obtain ⟨rfl, rfl⟩ := H
  go_enter Try.func13, Try.ntmps13
  go_wp2_with (first | ((with_reducible refine gate_dst (N := 4) rfl ?_); refine box_event rfl (N := 4) rfl (cs := #[.slice A0_0 l0_0.length c0_0, .slice A0_1 l0_1.length c0_1, .slice A0_2 l0_2.length c0_2, .slice A0_3 l0_3.length c0_3, .slice A0_4 l0_4.length c0_4, .slice A0_5 l0_5.length c0_5]) (t := 38) (by go_simp; done) ?_; intro gb355 hg w32 hbox hb; have BK355 := aM (hbox); have GW355 := bGE HB.out hg; have GE355 := bGE HB.out hg; replace HB := aB HB hb; clear hb hbox hg; obtain ⟨hcz33_0, hcz33_1, hcz33_2, hcz33_3, hcz33_4, hcz33_5⟩ := swc6 BK355.out; obtain ⟨hfz33_0, hfz33_1, hfz33_2, hfz33_3, hfz33_4, hfz33_5⟩ := swf6 BK355.out) | (go_at_call 46; (refine (impl_routesCode.calls k _ _ l0_0 _ _ l0_1 _ _ l0_2 _ _ l0_3 _ _ l0_4 _ _ l0_5 _ _ l1 _ _ l2 _ _ ([] : List (S80)) false t356 _ (Kd.C_below HR0_0.out HB.out) HC0_0.out (Kd.C_below HR0_1.out HB.out) HC0_1.out (Kd.C_below HR0_2.out HB.out) HC0_2.out (Kd.C_below HR0_3.out HB.out) HC0_3.out (Kd.C_below HR0_4.out HB.out) HC0_4.out (Kd.C_below HR0_5.out HB.out) HC0_5.out (Kd.C_below HR1.out HB.out) HC1.out (Kd.C_below HR2.out HB.out) HC2.out (Kd.C_nil _ _) (Nat.le_refl _) A7.out).mono ?_); rintro e w34 ⟨rfl, hb⟩; replace BK355 := aK BK355 hb; replace HB := aB HB hb; (try clear hb)))
  go_ret2
  exact ⟨_, by rfl, by exact Kd.R_nil _ _ _ _ _, by repeat ((with_reducible exact HB.out))⟩
 rw [if_pos c8] at H
 have c8b0 : (t356 == 0) = true := beq_iff_eq.mpr c8
 have c8b1 : (t356 != 0) = false := bne_eq_false_iff_eq.mpr c8
 clear c8
 replace H := bS H
 obtain ⟨t357, A90, H⟩ := H
 replace H : (if t357 = true then ((impl_routesOf.f k l0_0 l0_1 l0_2 l0_3 l0_4 l0_5 l1 l2 l3).bind fun bt358 => (if bt358.2 = true then (some (bt358.1, 0)) else (some (([] : List (S80)), 6)))) else (some (([] : List (S80)), 5))) = some (r1, r2) := H
 have A9 := aM A90
 clear A90
 by_cases c10 : t357 = true
 rotate_left
 ·replace c10 := Bool.eq_false_iff.mpr c10
  subst c10
  rw [if_neg (show ¬ (false = true) by decide)] at H
  simp only [Option.some.injEq, Prod.mk.injEq] at H
  obtain ⟨rfl, rfl⟩ := H
  go_enter Try.func13, Try.ntmps13
  go_wp2_with (first | ((with_reducible refine gate_dst (N := 4) rfl ?_); refine box_event rfl (N := 4) rfl (cs := #[.slice A0_0 l0_0.length c0_0, .slice A0_1 l0_1.length c0_1, .slice A0_2 l0_2.length c0_2, .slice A0_3 l0_3.length c0_3, .slice A0_4 l0_4.length c0_4, .slice A0_5 l0_5.length c0_5]) (t := 38) (by go_simp; done) ?_; intro gb355 hg w27 hbox hb; have BK355 := aM (hbox); have GW355 := bGE HB.out hg; have GE355 := bGE HB.out hg; replace HB := aB HB hb; clear hb hbox hg; obtain ⟨hcz28_0, hcz28_1, hcz28_2, hcz28_3, hcz28_4, hcz28_5⟩ := swc6 BK355.out; obtain ⟨hfz28_0, hfz28_1, hfz28_2, hfz28_3, hfz28_4, hfz28_5⟩ := swf6 BK355.out) | (go_at_call 46; (refine (impl_routesCode.calls k _ _ l0_0 _ _ l0_1 _ _ l0_2 _ _ l0_3 _ _ l0_4 _ _ l0_5 _ _ l1 _ _ l2 _ _ ([] : List (S80)) false t356 _ (Kd.C_below HR0_0.out HB.out) HC0_0.out (Kd.C_below HR0_1.out HB.out) HC0_1.out (Kd.C_below HR0_2.out HB.out) HC0_2.out (Kd.C_below HR0_3.out HB.out) HC0_3.out (Kd.C_below HR0_4.out HB.out) HC0_4.out (Kd.C_below HR0_5.out HB.out) HC0_5.out (Kd.C_below HR1.out HB.out) HC1.out (Kd.C_below HR2.out HB.out) HC2.out (Kd.C_nil _ _) (Nat.le_refl _) A7.out).mono ?_); rintro e w29 ⟨rfl, hb⟩; replace BK355 := aK BK355 hb; replace HB := aB HB hb; (try clear hb); obtain ⟨hcz30_0, hcz30_1, hcz30_2, hcz30_3, hcz30_4, hcz30_5⟩ := swc6 BK355.out; obtain ⟨hfz30_0, hfz30_1, hfz30_2, hfz30_3, hfz30_4, hfz30_5⟩ := swf6 BK355.out) | (go_at_call 47; (with_reducible refine (impl_areVias.calls _ _ l0_0 _ _ l0_1 _ _ l0_2 _ _ l0_3 _ _ l0_4 _ _ l0_5 _ _ l3 false _ (Kd.C_below HR0_0.out HB.out) HC0_0.out (Kd.C_below HR0_1.out HB.out) HC0_1.out (Kd.C_below HR0_2.out HB.out) HC0_2.out (Kd.C_below HR0_3.out HB.out) HC0_3.out (Kd.C_below HR0_4.out HB.out) HC0_4.out (Kd.C_below HR0_5.out HB.out) HC0_5.out (Kd.C_below HR3.out HB.out) HC3.out A9.out).mono ?_); rintro e w31 ⟨rfl, hb⟩; replace BK355 := aK BK355 hb; replace HB := aB HB hb; (try clear hb)))
  go_ret2
  exact ⟨_, by rfl, by exact Kd.R_nil _ _ _ _ _, by repeat ((with_reducible exact HB.out))⟩
 subst c10
 rw [if_pos rfl] at H
 replace H := bS H
 obtain ⟨⟨t358, t361⟩, A110, H⟩ := H
 replace H : (if t361 = true then (some (t358, 0)) else (some (([] : List (S80)), 6))) = some (r1, r2) := H
 have A11 := aM A110
 clear A110
 by_cases c12 : t361 = true
 ·subst c12
  rw [if_pos rfl] at H
  simp only [Option.some.injEq, Prod.mk.injEq] at H
  obtain ⟨rfl, rfl⟩ := H
  go_enter Try.func13, Try.ntmps13
  go_wp2_with (first | ((with_reducible refine gate_dst (N := 4) rfl ?_); refine box_event rfl (N := 4) rfl (cs := #[.slice A0_0 l0_0.length c0_0, .slice A0_1 l0_1.length c0_1, .slice A0_2 l0_2.length c0_2, .slice A0_3 l0_3.length c0_3, .slice A0_4 l0_4.length c0_4, .slice A0_5 l0_5.length c0_5]) (t := 38) (by go_simp; done) ?_; intro gb355 hg w13 hbox hb; have BK355 := aM (hbox); have GW355 := bGE HB.out hg; have GE355 := bGE HB.out hg; replace HB := aB HB hb; clear hb hbox hg; obtain ⟨hcz14_0, hcz14_1, hcz14_2, hcz14_3, hcz14_4, hcz14_5⟩ := swc6 BK355.out; obtain ⟨hfz14_0, hfz14_1, hfz14_2, hfz14_3, hfz14_4, hfz14_5⟩ := swf6 BK355.out) | (go_at_call 46; (refine (impl_routesCode.calls k _ _ l0_0 _ _ l0_1 _ _ l0_2 _ _ l0_3 _ _ l0_4 _ _ l0_5 _ _ l1 _ _ l2 _ _ ([] : List (S80)) false t356 _ (Kd.C_below HR0_0.out HB.out) HC0_0.out (Kd.C_below HR0_1.out HB.out) HC0_1.out (Kd.C_below HR0_2.out HB.out) HC0_2.out (Kd.C_below HR0_3.out HB.out) HC0_3.out (Kd.C_below HR0_4.out HB.out) HC0_4.out (Kd.C_below HR0_5.out HB.out) HC0_5.out (Kd.C_below HR1.out HB.out) HC1.out (Kd.C_below HR2.out HB.out) HC2.out (Kd.C_nil _ _) (Nat.le_refl _) A7.out).mono ?_); rintro e w15 ⟨rfl, hb⟩; replace BK355 := aK BK355 hb; replace HB := aB HB hb; (try clear hb); obtain ⟨hcz16_0, hcz16_1, hcz16_2, hcz16_3, hcz16_4, hcz16_5⟩ := swc6 BK355.out; obtain ⟨hfz16_0, hfz16_1, hfz16_2, hfz16_3, hfz16_4, hfz16_5⟩ := swf6 BK355.out) | (go_at_call 47; (with_reducible refine (impl_areVias.calls _ _ l0_0 _ _ l0_1 _ _ l0_2 _ _ l0_3 _ _ l0_4 _ _ l0_5 _ _ l3 true _ (Kd.C_below HR0_0.out HB.out) HC0_0.out (Kd.C_below HR0_1.out HB.out) HC0_1.out (Kd.C_below HR0_2.out HB.out) HC0_2.out (Kd.C_below HR0_3.out HB.out) HC0_3.out (Kd.C_below HR0_4.out HB.out) HC0_4.out (Kd.C_below HR0_5.out HB.out) HC0_5.out (Kd.C_below HR3.out HB.out) HC3.out A9.out).mono ?_); rintro e w17 ⟨rfl, hb⟩; replace BK355 := aK BK355 hb; replace HB := aB HB hb; (try clear hb); obtain ⟨hcz18_0, hcz18_1, hcz18_2, hcz18_3, hcz18_4, hcz18_5⟩ := swc6 BK355.out; obtain ⟨hfz18_0, hfz18_1, hfz18_2, hfz18_3, hfz18_4, hfz18_5⟩ := swf6 BK355.out) | (go_at_call 48; (with_reducible refine (impl_routesOf.calls k _ _ l0_0 _ _ l0_1 _ _ l0_2 _ _ l0_3 _ _ l0_4 _ _ l0_5 _ _ l1 _ _ l2 _ _ l3 t358 true _ (Kd.C_below HR0_0.out HB.out) HC0_0.out (Kd.C_below HR0_1.out HB.out) HC0_1.out (Kd.C_below HR0_2.out HB.out) HC0_2.out (Kd.C_below HR0_3.out HB.out) HC0_3.out (Kd.C_below HR0_4.out HB.out) HC0_4.out (Kd.C_below HR0_5.out HB.out) HC0_5.out (Kd.C_below HR1.out HB.out) HC1.out (Kd.C_below HR2.out HB.out) HC2.out (Kd.C_below HR3.out HB.out) HC3.out A11.out).mono ?_); rintro e w19 ⟨v359, rfl, ho0, hb⟩; have HO360 := aM (Kd.R_lower ho0 (below_size HB.out)); replace BK355 := aK BK355 hb; replace HB := aB HB hb; (try clear hb); (try clear ho0)))
  go_ret2
  exact ⟨_, by rfl, by exact HO360.out, by repeat ((with_reducible exact HB.out))⟩
 replace c12 := Bool.eq_false_iff.mpr c12
 subst c12
 rw [if_neg (show ¬ (false = true) by decide)] at H
 simp only [Option.some.injEq, Prod.mk.injEq] at H
 obtain ⟨rfl, rfl⟩ := H
 go_enter Try.func13, Try.ntmps13
 go_wp2_with (first | ((with_reducible refine gate_dst (N := 4) rfl ?_); refine box_event rfl (N := 4) rfl (cs := #[.slice A0_0 l0_0.length c0_0, .slice A0_1 l0_1.length c0_1, .slice A0_2 l0_2.length c0_2, .slice A0_3 l0_3.length c0_3, .slice A0_4 l0_4.length c0_4, .slice A0_5 l0_5.length c0_5]) (t := 38) (by go_simp; done) ?_; intro gb355 hg w20 hbox hb; have BK355 := aM (hbox); have GW355 := bGE HB.out hg; have GE355 := bGE HB.out hg; replace HB := aB HB hb; clear hb hbox hg; obtain ⟨hcz21_0, hcz21_1, hcz21_2, hcz21_3, hcz21_4, hcz21_5⟩ := swc6 BK355.out; obtain ⟨hfz21_0, hfz21_1, hfz21_2, hfz21_3, hfz21_4, hfz21_5⟩ := swf6 BK355.out) | (go_at_call 46; (refine (impl_routesCode.calls k _ _ l0_0 _ _ l0_1 _ _ l0_2 _ _ l0_3 _ _ l0_4 _ _ l0_5 _ _ l1 _ _ l2 _ _ ([] : List (S80)) false t356 _ (Kd.C_below HR0_0.out HB.out) HC0_0.out (Kd.C_below HR0_1.out HB.out) HC0_1.out (Kd.C_below HR0_2.out HB.out) HC0_2.out (Kd.C_below HR0_3.out HB.out) HC0_3.out (Kd.C_below HR0_4.out HB.out) HC0_4.out (Kd.C_below HR0_5.out HB.out) HC0_5.out (Kd.C_below HR1.out HB.out) HC1.out (Kd.C_below HR2.out HB.out) HC2.out (Kd.C_nil _ _) (Nat.le_refl _) A7.out).mono ?_); rintro e w22 ⟨rfl, hb⟩; replace BK355 := aK BK355 hb; replace HB := aB HB hb; (try clear hb); obtain ⟨hcz23_0, hcz23_1, hcz23_2, hcz23_3, hcz23_4, hcz23_5⟩ := swc6 BK355.out; obtain ⟨hfz23_0, hfz23_1, hfz23_2, hfz23_3, hfz23_4, hfz23_5⟩ := swf6 BK355.out) | (go_at_call 47; (with_reducible refine (impl_areVias.calls _ _ l0_0 _ _ l0_1 _ _ l0_2 _ _ l0_3 _ _ l0_4 _ _ l0_5 _ _ l3 true _ (Kd.C_below HR0_0.out HB.out) HC0_0.out (Kd.C_below HR0_1.out HB.out) HC0_1.out (Kd.C_below HR0_2.out HB.out) HC0_2.out (Kd.C_below HR0_3.out HB.out) HC0_3.out (Kd.C_below HR0_4.out HB.out) HC0_4.out (Kd.C_below HR0_5.out HB.out) HC0_5.out (Kd.C_below HR3.out HB.out) HC3.out A9.out).mono ?_); rintro e w24 ⟨rfl, hb⟩; replace BK355 := aK BK355 hb; replace HB := aB HB hb; (try clear hb); obtain ⟨hcz25_0, hcz25_1, hcz25_2, hcz25_3, hcz25_4, hcz25_5⟩ := swc6 BK355.out; obtain ⟨hfz25_0, hfz25_1, hfz25_2, hfz25_3, hfz25_4, hfz25_5⟩ := swf6 BK355.out) | (go_at_call 48; (with_reducible refine (impl_routesOf.calls k _ _ l0_0 _ _ l0_1 _ _ l0_2 _ _ l0_3 _ _ l0_4 _ _ l0_5 _ _ l1 _ _ l2 _ _ l3 t358 false _ (Kd.C_below HR0_0.out HB.out) HC0_0.out (Kd.C_below HR0_1.out HB.out) HC0_1.out (Kd.C_below HR0_2.out HB.out) HC0_2.out (Kd.C_below HR0_3.out HB.out) HC0_3.out (Kd.C_below HR0_4.out HB.out) HC0_4.out (Kd.C_below HR0_5.out HB.out) HC0_5.out (Kd.C_below HR1.out HB.out) HC1.out (Kd.C_below HR2.out HB.out) HC2.out (Kd.C_below HR3.out HB.out) HC3.out A11.out).mono ?_); rintro e w26 ⟨v359, rfl, ho0, hb⟩; have HO360 := aM (Kd.R_lower ho0 (below_size HB.out)); replace BK355 := aK BK355 hb; replace HB := aB HB hb; (try clear hb); (try clear ho0)))
 go_ret2
 exact ⟨_, by rfl, by exact Kd.R_nil _ _ _ _ _, by repeat ((with_reducible exact HB.out))⟩
end Go.Proofs.Ytgibacfgjmdjdaa.PFnExactIsStable
end
section
namespace Go.Proofs.Ytgibacfgjmdjdaa.PFnExactIsStable
open Go.RowKit Go.Proofs.YtgibacfgjmdjdaaW.PrintWords Go.Proofs.YtgibacfgjmdjdaaW.PrintLast Go.Proofs.YtgibacfgjmdjdaaW.PrintMore
attribute [local go_sem] max2_int min2_int max_two min_two max_three min_three max_four min_four
set_option linter.unusedVariables false
set_option linter.unusedSimpArgs false
instance decS80 : DecidableEq S80 := fun a b => if h : a.f0 = b.f0 ∧ a.f1 = b.f1 ∧ a.f2 = b.f2 ∧ a.f3 = b.f3 then isTrue (by obtain ⟨a0, a1, a2, a3⟩ := a; obtain ⟨b0, b1, b2, b3⟩ := b; obtain ⟨rfl, rfl, rfl, rfl⟩ := h; rfl) else isFalse (fun e => h (by subst e; exact ⟨rfl, rfl, rfl, rfl⟩))
section
variable {V W : World} {lo : Nat} {ok ok' : Nat → Prop} {A0 : Option Addr} {c0 : Nat} {A1 : Option Addr} {c1 : Nat} {A2 : Option Addr} {c2 : Nat} {A3 : Option Addr} {c3 : Nat} {A4 : Option Addr} {c4 : Nat} {A5 : Option Addr} {c5 : Nat} {q0 : List ByteArray} {q1 : List S92} {q2 : List Int} {q3 : List Int} {q4 : List S95} {q5 : List S97} {kf : Nat}
theorem markNet_any {w0 : World} {a1 r1 : Int} {r2 : List ByteArray} {r3 : List S92} {r4 r5 : List Int} {r6 : List S95} {r7 : List S97} (hB : Below w0.heap.size w0 V) (h1 : NP w0.heap.size ok A0 c0 A1 c1 A2 c2 A3 c3 A4 c4 A5 c5 q0 q1 q2 q3 q4 q5 V) (hap : ∀ k, some k = (.slice A2 q2.length c2 : Value).ownBlock → ¬ some k = (.slice A3 q3.length c3 : Value).ownBlock) (h : laws_markNet.f kf q0 q1 q2 q3 q4 q5 a1 = some (r1, r2, r3, r4, r5, r6, r7)) :
  Calls Try.prog 18 #[.agg #[.slice A0 q0.length c0, .slice A1 q1.length c1, .slice A2 q2.length c2, .slice A3 q3.length c3, .slice A4 q4.length c4, .slice A5 q5.length c5], .int .i64 a1] V fun e w' => e = .returned (.int .i64 r1) ∧ Below w0.heap.size w0 w' ∧ Kept V w' ok := by
 refine (laws_markNet.calls kf (fun k_ => some k_ = (.slice A0 q0.length c0 : Value).ownBlock) (.slice A0 q0.length c0) q0 (fun k_ => some k_ = (.slice A1 q1.length c1 : Value).ownBlock) (.slice A1 q1.length c1) q1 (fun k_ => some k_ = (.slice A2 q2.length c2 : Value).ownBlock) (.slice A2 q2.length c2) q2 (fun k_ => some k_ = (.slice A3 q3.length c3 : Value).ownBlock) (.slice A3 q3.length c3) q3 (fun k_ => some k_ = (.slice A4 q4.length c4 : Value).ownBlock) (.slice A4 q4.length c4) q4 (fun k_ => some k_ = (.slice A5 q5.length c5 : Value).ownBlock) (.slice A5 q5.length c5) q5 a1 r1 r2 r3 r4 r5 r6 r7 w0 V hB (Kd.R_tight rfl h1.1) (Kd.R_tight rfl h1.2.1) (Kd.R_tight rfl h1.2.2.1) hap (Kd.R_tight rfl h1.2.2.2.1) (fun k e e2 => hap k e2 e) (Kd.R_tight rfl h1.2.2.2.2.1) (Kd.R_tight rfl h1.2.2.2.2.2) h).mono ?_
 rintro e w' ⟨rfl, -, -, -, -, -, -, hb, hk⟩
 exact ⟨rfl, hb, hk.mono (fun k hs => h1.own k hs)⟩
theorem spec_RoutesOf_any {X1 : Option Addr} {y1 : Nat} {l1 : List Int} {X2 : Option Addr} {y2 : Nat} {l2 : List Bool} {X3 : Option Addr} {y3 : Nat} {l3 : List Int} {s1 : List S80} {s2 : Int} (h1 : NP lo ok A0 c0 A1 c1 A2 c2 A3 c3 A4 c4 A5 c5 q0 q1 q2 q3 q4 q5 V) (hr1 : Kd.C (Kd.int .i64) V X1 l1.length l1) (hc1 : l1.length ≤ y1) (hr2 : Kd.C Kd.bool V X2 l2.length l2) (hc2 : l2.length ≤ y2) (hr3 : Kd.C (Kd.int .i64) V X3 l3.length l3) (hc3 : l3.length ≤ y3) (h : spec_RoutesOf.f kf q0 q1 q2 q3 q4 q5 l1 l2 l3 = some (s1, s2)) :
  Calls Try.prog 9 #[.agg #[.slice A0 q0.length c0, .slice A1 q1.length c1, .slice A2 q2.length c2, .slice A3 q3.length c3, .slice A4 q4.length c4, .slice A5 q5.length c5], .slice X1 l1.length y1, .slice X2 l2.length y2, .slice X3 l3.length y3] V fun e w' => (∃ v0_ : Value, e = .returned (.tuple #[v0_, .int .i64 s2]) ∧ Kd.R k80 80 w' V.heap.size (fun _ => True) v0_ s1) ∧ Below V.heap.size V w' :=
 (spec_RoutesOf.calls kf A0 c0 q0 A1 c1 q1 A2 c2 q2 A3 c3 q3 A4 c4 q4 A5 c5 q5 X1 y1 l1 X2 y2 l2 X3 y3 l3 s1 s2 V (Kd.R_reads' h1.1).2.2 (Kd.R_reads' h1.1).2.1 (Kd.R_reads' h1.2.1).2.2 (Kd.R_reads' h1.2.1).2.1 (Kd.R_reads' h1.2.2.1).2.2 (Kd.R_reads' h1.2.2.1).2.1 (Kd.R_reads' h1.2.2.2.1).2.2 (Kd.R_reads' h1.2.2.2.1).2.1 (Kd.R_reads' h1.2.2.2.2.1).2.2 (Kd.R_reads' h1.2.2.2.2.1).2.1 (Kd.R_reads' h1.2.2.2.2.2).2.2 (Kd.R_reads' h1.2.2.2.2.2).2.1 hr1 hc1 hr2 hc2 hr3 hc3 h).mono (fun _ _ ⟨v, he, hr, hb⟩ => ⟨⟨v, he, hr⟩, hb⟩)
theorem impl_RoutesOf_any {X1 : Option Addr} {y1 : Nat} {l1 : List Int} {X2 : Option Addr} {y2 : Nat} {l2 : List Bool} {X3 : Option Addr} {y3 : Nat} {l3 : List Int} {s1 : List S80} {s2 : Int} (h1 : NP lo ok A0 c0 A1 c1 A2 c2 A3 c3 A4 c4 A5 c5 q0 q1 q2 q3 q4 q5 V) (hr1 : Kd.C (Kd.int .i64) V X1 l1.length l1) (hc1 : l1.length ≤ y1) (hr2 : Kd.C Kd.bool V X2 l2.length l2) (hc2 : l2.length ≤ y2) (hr3 : Kd.C (Kd.int .i64) V X3 l3.length l3) (hc3 : l3.length ≤ y3) (h : impl_RoutesOf.f kf q0 q1 q2 q3 q4 q5 l1 l2 l3 = some (s1, s2)) :
  Calls Try.prog 13 #[.agg #[.slice A0 q0.length c0, .slice A1 q1.length c1, .slice A2 q2.length c2, .slice A3 q3.length c3, .slice A4 q4.length c4, .slice A5 q5.length c5], .slice X1 l1.length y1, .slice X2 l2.length y2, .slice X3 l3.length y3] V fun e w' => (∃ v0_ : Value, e = .returned (.tuple #[v0_, .int .i64 s2]) ∧ Kd.R k80 80 w' V.heap.size (fun _ => True) v0_ s1) ∧ Below V.heap.size V w' :=
 (impl_RoutesOf.calls kf A0 c0 q0 A1 c1 q1 A2 c2 q2 A3 c3 q3 A4 c4 q4 A5 c5 q5 X1 y1 l1 X2 y2 l2 X3 y3 l3 s1 s2 V (Kd.R_reads' h1.1).2.2 (Kd.R_reads' h1.1).2.1 (Kd.R_reads' h1.2.1).2.2 (Kd.R_reads' h1.2.1).2.1 (Kd.R_reads' h1.2.2.1).2.2 (Kd.R_reads' h1.2.2.1).2.1 (Kd.R_reads' h1.2.2.2.1).2.2 (Kd.R_reads' h1.2.2.2.1).2.1 (Kd.R_reads' h1.2.2.2.2.1).2.2 (Kd.R_reads' h1.2.2.2.2.1).2.1 (Kd.R_reads' h1.2.2.2.2.2).2.2 (Kd.R_reads' h1.2.2.2.2.2).2.1 hr1 hc1 hr2 hc2 hr3 hc3 h).mono (fun _ _ ⟨v, he, hr, hb⟩ => ⟨⟨v, he, hr⟩, hb⟩)
end
theorem fB {P : World → Prop} {V V2 : World} {ok : Nat → Prop} (h : Aside0 (Foot P V ok)) (hb : Below V.heap.size V V2) : Aside0 (Foot P V2 ok) := ⟨foot_below h.out hb⟩
def lawR_T : Bool × List (List Nat × List Nat) := (true, [([], []), ([], []), ([1], [1]), ([0, 2, 2], [0, 2]), ([3], [3])])
def lawR_B : List Nat := [0, 0, 2, 7, 15]
theorem lawR_tab : rtab .any (opsOf Try.f3 19) = lawR_T := by kernel_rfl
theorem lawR_bits : waitsOk lawR_T.2 lawR_B = true := by kernel_rfl
theorem held_at (kf : Nat) (A : Option Addr) (c : Nat) (G : List S80) (n : Nat) (hn : G.length = n) (a r : Int) (w : World) (hR : Kd.C k80 w A G.length G) (hc : n ≤ c) (h : laws_heldRouteS.f kf G a = some r) : Calls Try.prog 22 #[.slice A n c, .int .i64 a] w fun e w' => e = .returned (.int .i64 r) ∧ Drawn0 w w' := by
 subst hn
 exact laws_heldRouteS.calls kf A c G a r w hR hc h
def laws_FnExactRoutesOf.f (kf : Nat) (l0_0 : List ByteArray) (l0_1 : List S107) (l0_2 : List Int) (l0_3 : List Int) (l0_4 : List S109) (l0_5 : List S111) (l1 : List Int) (l2 : List Bool) (l3 : List Int) : Option Bool :=
 if (l1.length : Int) > 1048576 then some true else
 if (l2.length : Int) > 1048576 then some true else
 if (l3.length : Int) > 1048576 then some true else
 (laws_szNet.f kf l0_0 l0_1 l0_2 l0_3 l0_4 l0_5 1048576).bind fun t => if t < 0 then some true else
 (laws_toNet.f kf l0_0 l0_1 l0_2 l0_3 l0_4 l0_5).bind fun q => (laws_toIntS.f kf l1).bind fun t1 => (laws_toBoolS.f kf l2).bind fun t2 => (laws_toIntS.f kf l3).bind fun t3 => (spec_RoutesOf.f kf q.1 q.2.1 q.2.2.1 q.2.2.2.1 q.2.2.2.2.1 q.2.2.2.2.2 t1 t2 t3).bind fun s => (impl_RoutesOf.f kf q.1 q.2.1 q.2.2.1 q.2.2.2.1 q.2.2.2.2.1 q.2.2.2.2.2 t1 t2 t3).bind fun g => (laws_eqRouteS.f kf s.1 s.1).bind fun b1 => (laws_eqNet.f kf q.1 q.2.1 q.2.2.1 q.2.2.2.1 q.2.2.2.2.1 q.2.2.2.2.2 q.1 q.2.1 q.2.2.1 q.2.2.2.1 q.2.2.2.2.1 q.2.2.2.2.2).bind fun b2 => (laws_eqIntS.f kf t1 t1).bind fun b3 => (laws_eqBoolS.f kf t2 t2).bind fun b4 => (laws_eqIntS.f kf t3 t3).bind fun b5 => (laws_markNet.f kf q.1 q.2.1 q.2.2.1 q.2.2.2.1 q.2.2.2.2.1 q.2.2.2.2.2 1).bind fun m => (laws_markIntS.f kf t1 m.1).bind fun y1 => (laws_markBoolS.f kf t2 y1.1).bind fun y2 => (laws_markIntS.f kf t3 y2.1).bind fun y3 => (laws_markRouteS.f kf s.1 1).bind fun z => (laws_heldRouteS.f kf z.2 1).bind fun h =>
 if g = s ∧ b1 = true ∧ b2 = true ∧ b3 = true ∧ b4 = true ∧ b5 = true ∧ 0 ≤ y3.1 ∧ h = z.1 ∧ 0 ≤ z.1 ∧ z.2.length = s.1.length then some true else none
set_option maxHeartbeats 8000000 in
set_option maxRecDepth 100000 in
theorem laws_FnExactRoutesOf.calls (kf : Nat) (A0_0 : Option Addr) (c0_0 : Nat) (l0_0 : List ByteArray) (A0_1 : Option Addr) (c0_1 : Nat) (l0_1 : List S107) (A0_2 : Option Addr) (c0_2 : Nat) (l0_2 : List Int) (A0_3 : Option Addr) (c0_3 : Nat) (l0_3 : List Int) (A0_4 : Option Addr) (c0_4 : Nat) (l0_4 : List S109) (A0_5 : Option Addr) (c0_5 : Nat) (l0_5 : List S111) (A1 : Option Addr) (c1 : Nat) (l1 : List Int) (A2 : Option Addr) (c2 : Nat) (l2 : List Bool) (A3 : Option Addr) (c3 : Nat) (l3 : List Int) (r : Bool) (w : World) (hr0_0 : Kd.C Kd.string w A0_0 l0_0.length l0_0) (hc0_0 : l0_0.length ≤ c0_0) (hr0_1 : Kd.C k107 w A0_1 l0_1.length l0_1) (hc0_1 : l0_1.length ≤ c0_1) (hr0_2 : Kd.C (Kd.int .i64) w A0_2 l0_2.length l0_2) (hc0_2 : l0_2.length ≤ c0_2) (hr0_3 : Kd.C (Kd.int .i64) w A0_3 l0_3.length l0_3) (hc0_3 : l0_3.length ≤ c0_3) (hr0_4 : Kd.C k109 w A0_4 l0_4.length l0_4) (hc0_4 : l0_4.length ≤ c0_4) (hr0_5 : Kd.C k111 w A0_5 l0_5.length l0_5) (hc0_5 : l0_5.length ≤ c0_5) (hr1 : Kd.C (Kd.int .i64) w A1 l1.length l1) (hc1 : l1.length ≤ c1) (hr2 : Kd.C Kd.bool w A2 l2.length l2) (hc2 : l2.length ≤ c2) (hr3 : Kd.C (Kd.int .i64) w A3 l3.length l3) (hc3 : l3.length ≤ c3) (h : laws_FnExactRoutesOf.f kf l0_0 l0_1 l0_2 l0_3 l0_4 l0_5 l1 l2 l3 = some r) :
  Calls Try.prog 3 #[.agg #[.slice A0_0 l0_0.length c0_0, .slice A0_1 l0_1.length c0_1, .slice A0_2 l0_2.length c0_2, .slice A0_3 l0_3.length c0_3, .slice A0_4 l0_4.length c0_4, .slice A0_5 l0_5.length c0_5], .slice A1 l1.length c1, .slice A2 l2.length c2, .slice A3 l3.length c3] w fun e w' => e = .returned (.bool r) ∧ Below w.heap.size w w' := by
 have hu28 := Try.underlying28
 have hu38 := Try.underlying38
 unfold laws_FnExactRoutesOf.f at h
 have hb1 : Below w.heap.size w (w.alloc (.cells #[.slice A0_0 l0_0.length c0_0, .slice A0_1 l0_1.length c0_1, .slice A0_2 l0_2.length c0_2, .slice A0_3 l0_3.length c0_3, .slice A0_4 l0_4.length c0_4, .slice A0_5 l0_5.length c0_5] 28)) := (Below.refl _ _).alloc (Nat.le_refl _) _
 have hW : (w.alloc (.cells #[.slice A0_0 l0_0.length c0_0, .slice A0_1 l0_1.length c0_1, .slice A0_2 l0_2.length c0_2, .slice A0_3 l0_3.length c0_3, .slice A0_4 l0_4.length c0_4, .slice A0_5 l0_5.length c0_5] 28)).heap[w.heap.size]? = some (.cells #[.slice A0_0 l0_0.length c0_0, .slice A0_1 l0_1.length c0_1, .slice A0_2 l0_2.length c0_2, .slice A0_3 l0_3.length c0_3, .slice A0_4 l0_4.length c0_4, .slice A0_5 l0_5.length c0_5] 28 (0, 0)) := by
  show (w.heap.push _)[w.heap.size]? = _
  simp
 obtain ⟨W1, hW1, BX, HB1⟩ : ∃ W1, w.alloc (.cells #[.slice A0_0 l0_0.length c0_0, .slice A0_1 l0_1.length c0_1, .slice A0_2 l0_2.length c0_2, .slice A0_3 l0_3.length c0_3, .slice A0_4 l0_4.length c0_4, .slice A0_5 l0_5.length c0_5] 28) = W1 ∧ W1.heap[w.heap.size]? = some (.cells #[.slice A0_0 l0_0.length c0_0, .slice A0_1 l0_1.length c0_1, .slice A0_2 l0_2.length c0_2, .slice A0_3 l0_3.length c0_3, .slice A0_4 l0_4.length c0_4, .slice A0_5 l0_5.length c0_5] 28 (0, 0)) ∧ Below w.heap.size w W1 := ⟨_, rfl, hW, hb1⟩
 have FA := aM (foot_and (foot_blk (ok := fun k_ => k_ < W1.heap.size) BX (blk_lt BX)) (foot_and (foot_C Kd.heap_string (Kd.C_below hr0_0 HB1)) (foot_and (foot_C heap107 (Kd.C_below hr0_1 HB1)) (foot_and (foot_C (Kd.heap_int .i64) (Kd.C_below hr0_2 HB1)) (foot_and (foot_C (Kd.heap_int .i64) (Kd.C_below hr0_3 HB1)) (foot_and (foot_C heap109 (Kd.C_below hr0_4 HB1)) (foot_and (foot_C heap111 (Kd.C_below hr0_5 HB1)) (foot_and (foot_C (Kd.heap_int .i64) (Kd.C_below hr1 HB1)) (foot_and (foot_C Kd.heap_bool (Kd.C_below hr2 HB1)) (foot_C (Kd.heap_int .i64) (Kd.C_below hr3 HB1)))))))))))
 have HB := aM HB1
 have HQ := aM (Nat.le_refl W1.heap.size)
 have HW1 := aM hW1
 clear hb1 hW hW1 BX HB1 hr0_0 hr0_1 hr0_2 hr0_3 hr0_4 hr0_5 hr1 hr2 hr3
 by_cases hbig1 : (l1.length : Int) > 1048576
 ·rw [if_pos hbig1] at h
  obtain rfl := Option.some.inj h
  clear h
  go_enter Try.func3, Try.ntmps3
  go_wp2
  go_ret
  exact ⟨rfl, by rw [HW1.out]; exact HB.out⟩
 rw [if_neg hbig1] at h
 by_cases hbig2 : (l2.length : Int) > 1048576
 ·rw [if_pos hbig2] at h
  obtain rfl := Option.some.inj h
  clear h
  go_enter Try.func3, Try.ntmps3
  go_wp2
  go_ret
  exact ⟨rfl, by rw [HW1.out]; exact HB.out⟩
 rw [if_neg hbig2] at h
 by_cases hbig3 : (l3.length : Int) > 1048576
 ·rw [if_pos hbig3] at h
  obtain rfl := Option.some.inj h
  clear h
  go_enter Try.func3, Try.ntmps3
  go_wp2
  go_ret
  exact ⟨rfl, by rw [HW1.out]; exact HB.out⟩
 rw [if_neg hbig3] at h
 replace h := Option.bind_eq_some_iff.1 h
 obtain ⟨t, hsz, h⟩ := h
 by_cases h_t : t < 0
 ·rw [if_pos h_t] at h
  obtain rfl := Option.some.inj h
  clear h
  go_enter Try.func3, Try.ntmps3
  go_upto_region 8 with fail
  rw [HW1.out]
  clear HW1
  obtain ⟨hx0, hx1, hx2, hx3, hx4, hx5⟩ := box6 FA.out.now.1
  go_wp2_with ((go_at_call 8; (with_reducible refine (laws_szNet.calls kf A0_0 c0_0 l0_0 A0_1 c0_1 l0_1 A0_2 c0_2 l0_2 A0_3 c0_3 l0_3 A0_4 c0_4 l0_4 A0_5 c0_5 l0_5 1048576 t W1 FA.out.now.2.1 hc0_0 FA.out.now.2.2.1 hc0_1 FA.out.now.2.2.2.1 hc0_2 FA.out.now.2.2.2.2.1 hc0_3 FA.out.now.2.2.2.2.2.1 hc0_4 FA.out.now.2.2.2.2.2.2.1 hc0_5 hsz).mono ?_); rintro e w2 ⟨rfl, hb⟩; clear hx0 hx1 hx2 hx3 hx4 hx5; replace FA := fB FA hb; replace HB := aB HB hb; replace HQ := aM (Nat.le_trans HQ.out hb.size); obtain ⟨hx0, hx1, hx2, hx3, hx4, hx5⟩ := box6 FA.out.now.1; clear hb))
  go_ret
  exact ⟨rfl, HB.out⟩
 rw [if_neg h_t] at h
 replace h := Option.bind_eq_some_iff.1 h
 obtain ⟨⟨q0, q1, q2, q3, q4, q5⟩, hto, h⟩ := h
 replace h := Option.bind_eq_some_iff.1 h
 obtain ⟨t1, ht1, h⟩ := h
 replace h := Option.bind_eq_some_iff.1 h
 obtain ⟨t2, ht2, h⟩ := h
 replace h := Option.bind_eq_some_iff.1 h
 obtain ⟨t3, ht3, h⟩ := h
 replace h := Option.bind_eq_some_iff.1 h
 obtain ⟨⟨s1, s2⟩, hsp, h⟩ := h
 replace h := Option.bind_eq_some_iff.1 h
 obtain ⟨g, him, h⟩ := h
 replace h := Option.bind_eq_some_iff.1 h
 obtain ⟨b1, heb, h⟩ := h
 replace h := Option.bind_eq_some_iff.1 h
 obtain ⟨b2, hen, h⟩ := h
 replace h := Option.bind_eq_some_iff.1 h
 obtain ⟨b3, he1, h⟩ := h
 replace h := Option.bind_eq_some_iff.1 h
 obtain ⟨b4, he2, h⟩ := h
 replace h := Option.bind_eq_some_iff.1 h
 obtain ⟨b5, he3, h⟩ := h
 replace h := Option.bind_eq_some_iff.1 h
 obtain ⟨⟨m0, n0, n1, n2, n3, n4, n5⟩, hmn, h⟩ := h
 replace h := Option.bind_eq_some_iff.1 h
 obtain ⟨⟨m1, tm1⟩, hm1, h⟩ := h
 replace h := Option.bind_eq_some_iff.1 h
 obtain ⟨⟨m2, tm2⟩, hm2, h⟩ := h
 replace h := Option.bind_eq_some_iff.1 h
 obtain ⟨⟨m3, tm3⟩, hm3, h⟩ := h
 replace h := Option.bind_eq_some_iff.1 h
 obtain ⟨⟨hz, G⟩, hmg, h⟩ := h
 replace h := Option.bind_eq_some_iff.1 h
 obtain ⟨hh, hhb, h⟩ := h
 simp only at hsp him heb hen hmn he1 he2 he3 hm1 hm2 hm3 hmg hhb h
 by_cases hc : g = (s1, s2) ∧ b1 = true ∧ b2 = true ∧ b3 = true ∧ b4 = true ∧ b5 = true ∧ 0 ≤ m3 ∧ hh = hz ∧ 0 ≤ hz ∧ G.length = s1.length
 rotate_left
 ·rw [if_neg hc] at h
  cases h
 rw [if_pos hc] at h
 obtain ⟨rfl, rfl, rfl, rfl, rfl, rfl, hk0, hhz, hk1, hGl⟩ := hc
 subst hhz
 obtain rfl := Option.some.inj h
 clear h
 have hne2 : (s2 != s2) = false := by simp
 have hne3 : (hh != hh) = false := by simp
 have hnk : ¬ m3 < 0 := by omega
 have hnh : ¬ hh < 0 := by omega
 clear hk0 hk1
 go_enter Try.func3, Try.ntmps3
 go_upto_region 8 with fail
 rw [HW1.out]
 clear HW1
 obtain ⟨hx0, hx1, hx2, hx3, hx4, hx5⟩ := box6 FA.out.now.1
 go_upto_region 11 with ((go_at_call 8; (with_reducible refine (laws_szNet.calls kf A0_0 c0_0 l0_0 A0_1 c0_1 l0_1 A0_2 c0_2 l0_2 A0_3 c0_3 l0_3 A0_4 c0_4 l0_4 A0_5 c0_5 l0_5 1048576 t W1 FA.out.now.2.1 hc0_0 FA.out.now.2.2.1 hc0_1 FA.out.now.2.2.2.1 hc0_2 FA.out.now.2.2.2.2.1 hc0_3 FA.out.now.2.2.2.2.2.1 hc0_4 FA.out.now.2.2.2.2.2.2.1 hc0_5 hsz).mono ?_); rintro e w2 ⟨rfl, hb⟩; clear hx0 hx1 hx2 hx3 hx4 hx5; replace FA := fB FA hb; replace HB := aB HB hb; replace HQ := aM (Nat.le_trans HQ.out hb.size); obtain ⟨hx0, hx1, hx2, hx3, hx4, hx5⟩ := box6 FA.out.now.1; clear hb))
 go_upto_region 12 with (first | (go_at_call 10; (with_reducible refine (toNet_any (kf := kf) w.heap.size HB.out.size A0_0 c0_0 l0_0 A0_1 c0_1 l0_1 A0_2 c0_2 l0_2 A0_3 c0_3 l0_3 A0_4 c0_4 l0_4 A0_5 c0_5 l0_5 q0 q1 q2 q3 q4 q5 FA.out.now.2.1 hc0_0 FA.out.now.2.2.1 hc0_1 FA.out.now.2.2.2.1 hc0_2 FA.out.now.2.2.2.2.1 hc0_3 FA.out.now.2.2.2.2.2.1 hc0_4 FA.out.now.2.2.2.2.2.2.1 hc0_5 hto).mono ?_); rintro e w3a ⟨A3_0, c3_0, A3_1, c3_1, A3_2, c3_2, A3_3, c3_3, A3_4, c3_4, A3_5, c3_5, rfl, hN_, -, hb⟩; clear hx0 hx1 hx2 hx3 hx4 hx5; replace FA := fB FA hb; replace HB := aB HB hb; replace HQ := aM (Nat.le_trans HQ.out hb.size); obtain ⟨hx0, hx1, hx2, hx3, hx4, hx5⟩ := box6 FA.out.now.1; clear hb; have HN3 := aM (NP.foot hN_); clear hN_) | (go_at_call 11; (with_reducible refine (laws_toIntS.calls kf A1 c1 l1 t1 _ FA.out.now.2.2.2.2.2.2.2.1 hc1 ht1).mono ?_); rintro e w3r1 ⟨v3, rfl, hR_, hb⟩; clear hx0 hx1 hx2 hx3 hx4 hx5; replace FA := fB FA hb; replace HN3 := fB HN3 hb; replace HB := aB HB hb; replace HQ := aM (Nat.le_trans HQ.out hb.size); obtain ⟨hx0, hx1, hx2, hx3, hx4, hx5⟩ := box6 FA.out.now.1; clear hb; obtain ⟨A3_r1, c3_r1, ev_⟩ := Kd.R_slice hR_; subst ev_; have HR3_1 := aM (foot_R hR_); clear hR_) | (go_at_call 12; (with_reducible refine (laws_toBoolS.calls kf A2 c2 l2 t2 _ FA.out.now.2.2.2.2.2.2.2.2.1 hc2 ht2).mono ?_); rintro e w3r2 ⟨v3, rfl, hR_, hb⟩; clear hx0 hx1 hx2 hx3 hx4 hx5; replace FA := fB FA hb; replace HN3 := fB HN3 hb; replace HR3_1 := fB HR3_1 hb; replace HB := aB HB hb; replace HQ := aM (Nat.le_trans HQ.out hb.size); obtain ⟨hx0, hx1, hx2, hx3, hx4, hx5⟩ := box6 FA.out.now.1; clear hb; obtain ⟨A3_r2, c3_r2, ev_⟩ := Kd.R_slice hR_; subst ev_; have HR3_2 := aM (foot_R hR_); clear hR_) | (go_at_call 11; (with_reducible refine (laws_toIntS.calls kf A3 c3 l3 t3 _ FA.out.now.2.2.2.2.2.2.2.2.2 hc3 ht3).mono ?_); rintro e w3r3 ⟨v3, rfl, hR_, hb⟩; clear hx0 hx1 hx2 hx3 hx4 hx5; replace FA := fB FA hb; replace HN3 := fB HN3 hb; replace HR3_1 := fB HR3_1 hb; replace HR3_2 := fB HR3_2 hb; replace HB := aB HB hb; replace HQ := aM (Nat.le_trans HQ.out hb.size); obtain ⟨hx0, hx1, hx2, hx3, hx4, hx5⟩ := box6 FA.out.now.1; clear hb; obtain ⟨A3_r3, c3_r3, ev_⟩ := Kd.R_slice hR_; subst ev_; have HR3_3 := aM (foot_R hR_); clear hR_) | (go_at_call 9; (with_reducible refine (spec_RoutesOf_any (kf := kf) HN3.out.now (Kd.R_reads' HR3_1.out.now).2.2 (Kd.R_reads' HR3_1.out.now).2.1 (Kd.R_reads' HR3_2.out.now).2.2 (Kd.R_reads' HR3_2.out.now).2.1 (Kd.R_reads' HR3_3.out.now).2.2 (Kd.R_reads' HR3_3.out.now).2.1 hsp).mono ?_); rintro e w4 ⟨⟨v4, rfl, hR4⟩, hb⟩; have HB3 := HB; clear HN3 HR3_1 HR3_2 HR3_3; clear hx0 hx1 hx2 hx3 hx4 hx5; replace FA := fB FA hb; replace HB := aB HB hb; replace HQ := aM (Nat.le_trans HQ.out hb.size); obtain ⟨hx0, hx1, hx2, hx3, hx4, hx5⟩ := box6 FA.out.now.1; clear hb; obtain ⟨A9, c9, ev4⟩ := Kd.R_slice hR4; subst ev4; have FW := aM (foot_R (Kd.R_mono (ok' := fun k_ => k_ < w4.heap.size) (Kd.R_bound (Kd.R_lower hR4 HB3.out.size)) (fun k_ hk_ => hk_.2.2.1))); clear hR4 HB3))
 go_upto_region 13 with (go_at_call 10; (with_reducible refine (toNet_any (kf := kf) w.heap.size HB.out.size A0_0 c0_0 l0_0 A0_1 c0_1 l0_1 A0_2 c0_2 l0_2 A0_3 c0_3 l0_3 A0_4 c0_4 l0_4 A0_5 c0_5 l0_5 q0 q1 q2 q3 q4 q5 FA.out.now.2.1 hc0_0 FA.out.now.2.2.1 hc0_1 FA.out.now.2.2.2.1 hc0_2 FA.out.now.2.2.2.2.1 hc0_3 FA.out.now.2.2.2.2.2.1 hc0_4 FA.out.now.2.2.2.2.2.2.1 hc0_5 hto).mono ?_); rintro e w5 ⟨A5_0, c5_0, A5_1, c5_1, A5_2, c5_2, A5_3, c5_3, A5_4, c5_4, A5_5, c5_5, rfl, hN_, hap, hb⟩; have HS5 := aM (NP.foot hN_); have HAP := aM hap; clear hN_ hap; have HL5 := aM hb.size; have HLE := aM HQ.out; clear hx0 hx1 hx2 hx3 hx4 hx5; replace FA := fB FA hb; replace FW := fB FW hb; replace HB := aB HB hb; replace HQ := aM (Nat.le_trans HQ.out hb.size); obtain ⟨hx0, hx1, hx2, hx3, hx4, hx5⟩ := box6 FA.out.now.1; clear hb)
 have hb6 := (below_alloc (Below.refl w5.heap.size w5) (.cells #[.slice A5_0 q0.length c5_0, .slice A5_1 q1.length c5_1, .slice A5_2 q2.length c5_2, .slice A5_3 q3.length c5_3, .slice A5_4 q4.length c5_4, .slice A5_5 q5.length c5_5] 38))
 have hg6 := blk_new w5 (.cells #[.slice A5_0 q0.length c5_0, .slice A5_1 q1.length c5_1, .slice A5_2 q2.length c5_2, .slice A5_3 q3.length c5_3, .slice A5_4 q4.length c5_4, .slice A5_5 q5.length c5_5] 38)
 generalize w5.alloc (.cells #[.slice A5_0 q0.length c5_0, .slice A5_1 q1.length c5_1, .slice A5_2 q2.length c5_2, .slice A5_3 q3.length c5_3, .slice A5_4 q4.length c5_4, .slice A5_5 q5.length c5_5] 38) = w6 at hb6 hg6 ⊢
 have HG6 := aM (foot_blk (ok := fun k_ => w4.heap.size ≤ k_ ∧ k_ < w6.heap.size) hg6 ⟨HL5.out, blk_lt hg6⟩)
 obtain ⟨hgx0, hgx1, hgx2, hgx3, hgx4, hgx5⟩ := box6 hg6
 have H6 := aM hb6.size
 clear hx0 hx1 hx2 hx3 hx4 hx5
 replace FA := fB FA hb6
 replace FW := fB FW hb6
 replace HS5 := fB HS5 hb6
 replace HB := aM (HB.out.trans (hb6.mono HB.out.size))
 replace HQ := aM (Nat.le_trans HQ.out hb6.size)
 obtain ⟨hx0, hx1, hx2, hx3, hx4, hx5⟩ := box6 FA.out.now.1
 clear hb6 hg6
 go_upto_region 14 with (go_at_call 11; (with_reducible refine (laws_toIntS.calls kf A1 c1 l1 t1 _ FA.out.now.2.2.2.2.2.2.2.1 hc1 ht1).mono ?_); rintro e wx1 ⟨v6, rfl, hR6, hb⟩; have HX1 := aM (foot_R (Kd.R_lower (Kd.R_mono (ok' := fun k_ => w6.heap.size ≤ k_ ∧ k_ < wx1.heap.size) (Kd.R_bound hR6) (fun k_ hk_ => ⟨hk_.2.1, hk_.2.2.1⟩)) HB.out.size)); have HZ1 := aM hb.size; clear hx0 hx1 hx2 hx3 hx4 hx5; clear hgx0 hgx1 hgx2 hgx3 hgx4 hgx5; replace FA := fB FA hb; replace FW := fB FW hb; replace HS5 := fB HS5 hb; replace HG6 := fB HG6 hb; replace HB := aB HB hb; replace HQ := aM (Nat.le_trans HQ.out hb.size); obtain ⟨hx0, hx1, hx2, hx3, hx4, hx5⟩ := box6 FA.out.now.1; obtain ⟨hgx0, hgx1, hgx2, hgx3, hgx4, hgx5⟩ := box6 HG6.out.now; clear hb; obtain ⟨A6_1, c6_1, ev6⟩ := Kd.R_slice hR6; clear hR6; subst ev6)
 go_upto_region 15 with (go_at_call 12; (with_reducible refine (laws_toBoolS.calls kf A2 c2 l2 t2 _ FA.out.now.2.2.2.2.2.2.2.2.1 hc2 ht2).mono ?_); rintro e wx2 ⟨v6, rfl, hR6, hb⟩; have HX2 := aM (foot_R (Kd.R_lower (Kd.R_mono (ok' := fun k_ => wx1.heap.size ≤ k_ ∧ k_ < wx2.heap.size) (Kd.R_bound hR6) (fun k_ hk_ => ⟨hk_.2.1, hk_.2.2.1⟩)) HB.out.size)); have HZ2 := aM hb.size; clear hx0 hx1 hx2 hx3 hx4 hx5; clear hgx0 hgx1 hgx2 hgx3 hgx4 hgx5; replace FA := fB FA hb; replace FW := fB FW hb; replace HS5 := fB HS5 hb; replace HG6 := fB HG6 hb; replace HX1 := fB HX1 hb; replace HB := aB HB hb; replace HQ := aM (Nat.le_trans HQ.out hb.size); obtain ⟨hx0, hx1, hx2, hx3, hx4, hx5⟩ := box6 FA.out.now.1; obtain ⟨hgx0, hgx1, hgx2, hgx3, hgx4, hgx5⟩ := box6 HG6.out.now; clear hb; obtain ⟨A6_2, c6_2, ev6⟩ := Kd.R_slice hR6; clear hR6; subst ev6)
 go_upto_region 16 with (go_at_call 11; (with_reducible refine (laws_toIntS.calls kf A3 c3 l3 t3 _ FA.out.now.2.2.2.2.2.2.2.2.2 hc3 ht3).mono ?_); rintro e wx3 ⟨v6, rfl, hR6, hb⟩; have HX3 := aM (foot_R (Kd.R_lower (Kd.R_mono (ok' := fun k_ => wx2.heap.size ≤ k_ ∧ k_ < wx3.heap.size) (Kd.R_bound hR6) (fun k_ hk_ => ⟨hk_.2.1, hk_.2.2.1⟩)) HB.out.size)); have HZ3 := aM hb.size; clear hx0 hx1 hx2 hx3 hx4 hx5; clear hgx0 hgx1 hgx2 hgx3 hgx4 hgx5; replace FA := fB FA hb; replace FW := fB FW hb; replace HS5 := fB HS5 hb; replace HG6 := fB HG6 hb; replace HX1 := fB HX1 hb; replace HX2 := fB HX2 hb; replace HB := aB HB hb; replace HQ := aM (Nat.le_trans HQ.out hb.size); obtain ⟨hx0, hx1, hx2, hx3, hx4, hx5⟩ := box6 FA.out.now.1; obtain ⟨hgx0, hgx1, hgx2, hgx3, hgx4, hgx5⟩ := box6 HG6.out.now; clear hb; obtain ⟨A6_3, c6_3, ev6⟩ := Kd.R_slice hR6; clear hR6; subst ev6)
 go_upto_region 17 with (go_at_call 13; (with_reducible refine (impl_RoutesOf_any (kf := kf) HS5.out.now (Kd.R_reads' HX1.out.now).2.2 (Kd.R_reads' HX1.out.now).2.1 (Kd.R_reads' HX2.out.now).2.2 (Kd.R_reads' HX2.out.now).2.1 (Kd.R_reads' HX3.out.now).2.2 (Kd.R_reads' HX3.out.now).2.1 him).mono ?_); rintro e w8 ⟨⟨v7, rfl, hR7⟩, hb⟩; have HR7 := aM (foot_R (Kd.R_lower (Kd.R_mono (ok' := fun k_ => wx3.heap.size ≤ k_) (Kd.R_bound hR7) (fun k_ hk_ => hk_.2.1)) HB.out.size)); clear hx0 hx1 hx2 hx3 hx4 hx5; clear hgx0 hgx1 hgx2 hgx3 hgx4 hgx5; replace FA := fB FA hb; replace FW := fB FW hb; replace HS5 := fB HS5 hb; replace HG6 := fB HG6 hb; replace HX1 := fB HX1 hb; replace HX2 := fB HX2 hb; replace HX3 := fB HX3 hb; replace HB := aB HB hb; replace HQ := aM (Nat.le_trans HQ.out hb.size); obtain ⟨hx0, hx1, hx2, hx3, hx4, hx5⟩ := box6 FA.out.now.1; obtain ⟨hgx0, hgx1, hgx2, hgx3, hgx4, hgx5⟩ := box6 HG6.out.now; clear hb; obtain ⟨A7, c7, ev7⟩ := Kd.R_slice hR7; clear hR7; subst ev7)
 go_upto_region 19 with (go_at_call 14; (with_reducible refine (laws_eqRouteS.calls kf A7 c7 s1 A9 c9 s1 true _ (Kd.R_reads' HR7.out.now).2.2 (Kd.R_reads' HR7.out.now).2.1 (Kd.R_reads' FW.out.now).2.2 (Kd.R_reads' FW.out.now).2.1 heb).mono ?_); rintro e w9 ⟨rfl, hb⟩; clear hx0 hx1 hx2 hx3 hx4 hx5; clear hgx0 hgx1 hgx2 hgx3 hgx4 hgx5; replace FA := fB FA hb; replace FW := fB FW hb; replace HS5 := fB HS5 hb; replace HG6 := fB HG6 hb; replace HX1 := fB HX1 hb; replace HX2 := fB HX2 hb; replace HX3 := fB HX3 hb; replace HR7 := fB HR7 hb; replace HB := aB HB hb; replace HQ := aM (Nat.le_trans HQ.out hb.size); obtain ⟨hx0, hx1, hx2, hx3, hx4, hx5⟩ := box6 FA.out.now.1; obtain ⟨hgx0, hgx1, hgx2, hgx3, hgx4, hgx5⟩ := box6 HG6.out.now; clear hb)
 have hbd := below_drew (Below.refl w9.heap.size w9)
 clear hx0 hx1 hx2 hx3 hx4 hx5 hgx0 hgx1 hgx2 hgx3 hgx4 hgx5
 replace FA := fB FA hbd
 replace FW := fB FW hbd
 replace HS5 := fB HS5 hbd
 replace HG6 := fB HG6 hbd
 replace HX1 := fB HX1 hbd
 replace HX2 := fB HX2 hbd
 replace HX3 := fB HX3 hbd
 replace HR7 := fB HR7 hbd
 replace HB := aM (HB.out.trans (hbd.mono HB.out.size))
 replace HQ := aM (Nat.le_trans HQ.out hbd.size)
 obtain ⟨hx0, hx1, hx2, hx3, hx4, hx5⟩ := box6 FA.out.now.1
 obtain ⟨hgx0, hgx1, hgx2, hgx3, hgx4, hgx5⟩ := box6 HG6.out.now
 clear hbd
 generalize hw9 : w9.drew = w10 at *
 refine start_ (n := 5) (S := fun w' => w'.cell? ⟨w.heap.size, 0, none⟩ = some (.slice A0_0 l0_0.length c0_0) ∧ w'.cell? ⟨w.heap.size, 1, none⟩ = some (.slice A0_1 l0_1.length c0_1) ∧ w'.cell? ⟨w.heap.size, 2, none⟩ = some (.slice A0_2 l0_2.length c0_2) ∧ w'.cell? ⟨w.heap.size, 3, none⟩ = some (.slice A0_3 l0_3.length c0_3) ∧ w'.cell? ⟨w.heap.size, 4, none⟩ = some (.slice A0_4 l0_4.length c0_4) ∧ w'.cell? ⟨w.heap.size, 5, none⟩ = some (.slice A0_5 l0_5.length c0_5) ∧ w'.cell? ⟨w5.heap.size, 0, none⟩ = some (.slice A5_0 q0.length c5_0) ∧ w'.cell? ⟨w5.heap.size, 1, none⟩ = some (.slice A5_1 q1.length c5_1) ∧ w'.cell? ⟨w5.heap.size, 2, none⟩ = some (.slice A5_2 q2.length c5_2) ∧ w'.cell? ⟨w5.heap.size, 3, none⟩ = some (.slice A5_3 q3.length c5_3) ∧ w'.cell? ⟨w5.heap.size, 4, none⟩ = some (.slice A5_4 q4.length c5_4) ∧ w'.cell? ⟨w5.heap.size, 5, none⟩ = some (.slice A5_5 q5.length c5_5)) (ds := []) (bA 5 0) (by kernel_rfl) rfl rfl (by rw [hw9]; exact ⟨hx0, hx1, hx2, hx3, hx4, hx5, hgx0, hgx1, hgx2, hgx3, hgx4, hgx5⟩) (fun hHeld => ?_)
 refine with_tabW lawR_tab lawR_bits (fun HT_ HW_ => ?_)
 rw [hw9] at hHeld ⊢
 clear hw9
 refine take_ (i := 0) (N := some 74) (bA 5 1) rfl rfl (take_ofW HT_.out HW_.out (by kernel_rfl)) (fun _ _ _ h => h) (.inl ⟨by rfl, by rintro w' ⟨s0, s1, s2, s3, s4, s5, s6, s7, s8, s9, s10, s11⟩; go_simp; with_reducible rfl⟩) hHeld (by simp only [Act.put, sb0, sb1, sb2, i64_w, i32_w]; rfl) ?_
 refine take_ (i := 1) (N := some 75) (bA 5 3) rfl rfl (take_ofW HT_.out HW_.out (by kernel_rfl)) (fun _ _ _ h => h) (.inl ⟨by rfl, by rintro w' ⟨s0, s1, s2, s3, s4, s5, s6, s7, s8, s9, s10, s11⟩; go_simp; with_reducible rfl⟩) hHeld (by simp only [Act.put, sb0, sb1, sb2, i64_w, i32_w]; rfl) ?_
 refine one_ (i := 2) (N := some 76) (bA 5 7) rfl rfl (one_of HT_.out (by kernel_rfl)) (by decide) (fun K hK => ?_)
 refine call_ 10 #[.agg #[.slice A0_0 l0_0.length c0_0, .slice A0_1 l0_1.length c0_1, .slice A0_2 l0_2.length c0_2, .slice A0_3 l0_3.length c0_3, .slice A0_4 l0_4.length c0_4, .slice A0_5 l0_5.length c0_5]] (by rfl) rfl ?hrun2 ?h2
 case hrun2 =>
  have he := enters_of Try.func10 (by kernel_rfl) rfl
  unfold execOp
  simp [resolve, Deferred.ofValue, invoke, Act.eval, he]
 refine (toNet_any (kf := kf) w.heap.size HB.out.size A0_0 c0_0 l0_0 A0_1 c0_1 l0_1 A0_2 c0_2 l0_2 A0_3 c0_3 l0_3 A0_4 c0_4 l0_4 A0_5 c0_5 l0_5 q0 q1 q2 q3 q4 q5 FA.out.now.2.1 hc0_0 FA.out.now.2.2.1 hc0_1 FA.out.now.2.2.2.1 hc0_2 FA.out.now.2.2.2.2.1 hc0_3 FA.out.now.2.2.2.2.2.1 hc0_4 FA.out.now.2.2.2.2.2.2.1 hc0_5 hto).mono ?_
 rintro e w11 ⟨A10_0, c10_0, A10_1, c10_1, A10_2, c10_2, A10_3, c10_3, A10_4, c10_4, A10_5, c10_5, rfl, hN_, -, hb⟩
 refine ⟨_, rfl, ?_⟩
 clear hx0 hx1 hx2 hx3 hx4 hx5 hgx0 hgx1 hgx2 hgx3 hgx4 hgx5
 replace FA := fB FA hb
 replace FW := fB FW hb
 replace HS5 := fB HS5 hb
 replace HG6 := fB HG6 hb
 replace HX1 := fB HX1 hb
 replace HX2 := fB HX2 hb
 replace HX3 := fB HX3 hb
 replace HR7 := fB HR7 hb
 replace HB := aB HB hb
 replace HQ := aM (Nat.le_trans HQ.out hb.size)
 obtain ⟨hx0, hx1, hx2, hx3, hx4, hx5⟩ := box6 FA.out.now.1
 obtain ⟨hgx0, hgx1, hgx2, hgx3, hgx4, hgx5⟩ := box6 HG6.out.now
 clear hb
 have HN10 := aM hN_
 clear hN_
 refine hK.out _ _ ⟨hx0, hx1, hx2, hx3, hx4, hx5, hgx0, hgx1, hgx2, hgx3, hgx4, hgx5⟩ (fun hHeld => ?_)
 clear hK K
 refine norm_ (a' := ?_) ?_ ?_
 rotate_left
 ·show Act.put _ (some 76) _ = _
  simp only [Act.put, sb0, sb1, sb2, i64_w, i32_w]
  rfl
 refine one_ (i := 3) (N := some 77) (bA 5 15) rfl rfl (one_of HT_.out (by kernel_rfl)) (by decide) (fun K hK => ?_)
 refine call_ 15 #[.agg #[.slice A5_0 q0.length c5_0, .slice A5_1 q1.length c5_1, .slice A5_2 q2.length c5_2, .slice A5_3 q3.length c5_3, .slice A5_4 q4.length c5_4, .slice A5_5 q5.length c5_5], .agg #[.slice A10_0 q0.length c10_0, .slice A10_1 q1.length c10_1, .slice A10_2 q2.length c10_2, .slice A10_3 q3.length c10_3, .slice A10_4 q4.length c10_4, .slice A10_5 q5.length c10_5]] (by rfl) rfl ?hrun3 ?h3
 case hrun3 =>
  have he := enters_of Try.func15 (by kernel_rfl) rfl
  unfold execOp
  simp [resolve, Deferred.ofValue, invoke, Act.eval, he]
 refine (eqNet_any (kf := kf) HS5.out.now HN10.out hen).mono ?_
 rintro e w12 ⟨rfl, hb⟩
 refine ⟨_, rfl, ?_⟩
 clear HN10 hx0 hx1 hx2 hx3 hx4 hx5 hgx0 hgx1 hgx2 hgx3 hgx4 hgx5
 replace FA := fB FA hb
 replace FW := fB FW hb
 replace HS5 := fB HS5 hb
 replace HG6 := fB HG6 hb
 replace HX1 := fB HX1 hb
 replace HX2 := fB HX2 hb
 replace HX3 := fB HX3 hb
 replace HR7 := fB HR7 hb
 replace HB := aB HB hb
 replace HQ := aM (Nat.le_trans HQ.out hb.size)
 obtain ⟨hx0, hx1, hx2, hx3, hx4, hx5⟩ := box6 FA.out.now.1
 obtain ⟨hgx0, hgx1, hgx2, hgx3, hgx4, hgx5⟩ := box6 HG6.out.now
 clear hb
 refine hK.out _ _ ⟨hx0, hx1, hx2, hx3, hx4, hx5, hgx0, hgx1, hgx2, hgx3, hgx4, hgx5⟩ (fun hHeld => ?_)
 clear hK K
 refine norm_ (a' := ?_) ?_ ?_
 rotate_left
 ·show Act.put _ (some 77) _ = _
  simp only [Act.put, sb0, sb1, sb2, i64_w, i32_w]
  rfl
 refine pure_ (i := 4) (N := some 78) (bA 5 31) rfl rfl (any_of HT_.out (by kernel_rfl)) (fun _ _ _ h => h) (.inl ⟨by rfl, by intro w'; go_simp; with_reducible rfl⟩) (by simp only [Act.put, sb0, sb1, sb2, i64_w, i32_w]; rfl) ?_
 refine done_ (done_of HT_.out (by kernel_rfl)) ?_
 clear hHeld HT_ HW_
 go_upto_region 23 with (first | (go_at_call 11; (with_reducible refine (laws_toIntS.calls kf A1 c1 l1 t1 _ FA.out.now.2.2.2.2.2.2.2.1 hc1 ht1).mono ?_); rintro e wy1 ⟨v13, rfl, hR13, hb⟩; clear hx0 hx1 hx2 hx3 hx4 hx5; clear hgx0 hgx1 hgx2 hgx3 hgx4 hgx5; replace FA := fB FA hb; replace FW := fB FW hb; replace HS5 := fB HS5 hb; replace HG6 := fB HG6 hb; replace HX1 := fB HX1 hb; replace HX2 := fB HX2 hb; replace HX3 := fB HX3 hb; replace HR7 := fB HR7 hb; replace HB := aB HB hb; replace HQ := aM (Nat.le_trans HQ.out hb.size); obtain ⟨hx0, hx1, hx2, hx3, hx4, hx5⟩ := box6 FA.out.now.1; obtain ⟨hgx0, hgx1, hgx2, hgx3, hgx4, hgx5⟩ := box6 HG6.out.now; clear hb; obtain ⟨A13, c13, ev_, hl13, hC13⟩ := Kd.R_reads hR13; clear hR13; subst ev_) | (go_at_call 16; (with_reducible refine (laws_eqIntS.calls kf A6_1 c6_1 t1 A13 c13 t1 true _ (Kd.R_reads' HX1.out.now).2.2 (Kd.R_reads' HX1.out.now).2.1 hC13 hl13 he1).mono ?_); rintro e wz1 ⟨rfl, hd⟩; clear hC13 hl13; have hb := drawn_below hd; clear hd; clear hx0 hx1 hx2 hx3 hx4 hx5; clear hgx0 hgx1 hgx2 hgx3 hgx4 hgx5; replace FA := fB FA hb; replace FW := fB FW hb; replace HS5 := fB HS5 hb; replace HG6 := fB HG6 hb; replace HX1 := fB HX1 hb; replace HX2 := fB HX2 hb; replace HX3 := fB HX3 hb; replace HR7 := fB HR7 hb; replace HB := aB HB hb; replace HQ := aM (Nat.le_trans HQ.out hb.size); obtain ⟨hx0, hx1, hx2, hx3, hx4, hx5⟩ := box6 FA.out.now.1; obtain ⟨hgx0, hgx1, hgx2, hgx3, hgx4, hgx5⟩ := box6 HG6.out.now; clear hb))
 go_upto_region 25 with (first | (go_at_call 12; (with_reducible refine (laws_toBoolS.calls kf A2 c2 l2 t2 _ FA.out.now.2.2.2.2.2.2.2.2.1 hc2 ht2).mono ?_); rintro e wy2 ⟨v13, rfl, hR13, hb⟩; clear hx0 hx1 hx2 hx3 hx4 hx5; clear hgx0 hgx1 hgx2 hgx3 hgx4 hgx5; replace FA := fB FA hb; replace FW := fB FW hb; replace HS5 := fB HS5 hb; replace HG6 := fB HG6 hb; replace HX1 := fB HX1 hb; replace HX2 := fB HX2 hb; replace HX3 := fB HX3 hb; replace HR7 := fB HR7 hb; replace HB := aB HB hb; replace HQ := aM (Nat.le_trans HQ.out hb.size); obtain ⟨hx0, hx1, hx2, hx3, hx4, hx5⟩ := box6 FA.out.now.1; obtain ⟨hgx0, hgx1, hgx2, hgx3, hgx4, hgx5⟩ := box6 HG6.out.now; clear hb; obtain ⟨A13, c13, ev_, hl13, hC13⟩ := Kd.R_reads hR13; clear hR13; subst ev_) | (go_at_call 17; (with_reducible refine (laws_eqBoolS.calls kf A6_2 c6_2 t2 A13 c13 t2 true _ (Kd.R_reads' HX2.out.now).2.2 (Kd.R_reads' HX2.out.now).2.1 hC13 hl13 he2).mono ?_); rintro e wz2 ⟨rfl, hd⟩; clear hC13 hl13; have hb := drawn_below hd; clear hd; clear hx0 hx1 hx2 hx3 hx4 hx5; clear hgx0 hgx1 hgx2 hgx3 hgx4 hgx5; replace FA := fB FA hb; replace FW := fB FW hb; replace HS5 := fB HS5 hb; replace HG6 := fB HG6 hb; replace HX1 := fB HX1 hb; replace HX2 := fB HX2 hb; replace HX3 := fB HX3 hb; replace HR7 := fB HR7 hb; replace HB := aB HB hb; replace HQ := aM (Nat.le_trans HQ.out hb.size); obtain ⟨hx0, hx1, hx2, hx3, hx4, hx5⟩ := box6 FA.out.now.1; obtain ⟨hgx0, hgx1, hgx2, hgx3, hgx4, hgx5⟩ := box6 HG6.out.now; clear hb))
 go_upto_region 28 with (first | (go_at_call 11; (with_reducible refine (laws_toIntS.calls kf A3 c3 l3 t3 _ FA.out.now.2.2.2.2.2.2.2.2.2 hc3 ht3).mono ?_); rintro e wy3 ⟨v13, rfl, hR13, hb⟩; clear hx0 hx1 hx2 hx3 hx4 hx5; clear hgx0 hgx1 hgx2 hgx3 hgx4 hgx5; replace FA := fB FA hb; replace FW := fB FW hb; replace HS5 := fB HS5 hb; replace HG6 := fB HG6 hb; replace HX1 := fB HX1 hb; replace HX2 := fB HX2 hb; replace HX3 := fB HX3 hb; replace HR7 := fB HR7 hb; replace HB := aB HB hb; replace HQ := aM (Nat.le_trans HQ.out hb.size); obtain ⟨hx0, hx1, hx2, hx3, hx4, hx5⟩ := box6 FA.out.now.1; obtain ⟨hgx0, hgx1, hgx2, hgx3, hgx4, hgx5⟩ := box6 HG6.out.now; clear hb; obtain ⟨A13, c13, ev_, hl13, hC13⟩ := Kd.R_reads hR13; clear hR13; subst ev_) | (go_at_call 16; (with_reducible refine (laws_eqIntS.calls kf A6_3 c6_3 t3 A13 c13 t3 true _ (Kd.R_reads' HX3.out.now).2.2 (Kd.R_reads' HX3.out.now).2.1 hC13 hl13 he3).mono ?_); rintro e wz3 ⟨rfl, hd⟩; clear hC13 hl13; have hb := drawn_below hd; clear hd; clear hx0 hx1 hx2 hx3 hx4 hx5; clear hgx0 hgx1 hgx2 hgx3 hgx4 hgx5; replace FA := fB FA hb; replace FW := fB FW hb; replace HS5 := fB HS5 hb; replace HG6 := fB HG6 hb; replace HX1 := fB HX1 hb; replace HX2 := fB HX2 hb; replace HX3 := fB HX3 hb; replace HR7 := fB HR7 hb; replace HB := aB HB hb; replace HQ := aM (Nat.le_trans HQ.out hb.size); obtain ⟨hx0, hx1, hx2, hx3, hx4, hx5⟩ := box6 FA.out.now.1; obtain ⟨hgx0, hgx1, hgx2, hgx3, hgx4, hgx5⟩ := box6 HG6.out.now; clear hb))
 go_upto_region 29 with (go_at_call 18; (with_reducible refine (markNet_any (kf := kf) HB.out HS5.out.now HAP.out hmn).mono ?_); rintro e w15 ⟨rfl, hbB, hbK⟩; clear hx0 hx1 hx2 hx3 hx4 hx5; clear hgx0 hgx1 hgx2 hgx3 hgx4 hgx5; clear HG6 HS5; replace FA := aM (foot_kept FA.out hbK (fun k_ hk_ hs_ => by have g1_ : k_ < W1.heap.size := hk_; have g2_ : w4.heap.size ≤ k_ ∧ k_ < w5.heap.size := hs_; have := HLE.out; have := HL5.out; have := H6.out; have := HZ1.out; have := HZ2.out; have := HZ3.out; omega)); replace FW := aM (foot_kept FW.out hbK (fun k_ hk_ hs_ => by have g1_ : k_ < w4.heap.size := hk_; have g2_ : w4.heap.size ≤ k_ ∧ k_ < w5.heap.size := hs_; have := HLE.out; have := HL5.out; have := H6.out; have := HZ1.out; have := HZ2.out; have := HZ3.out; omega)); replace HX1 := aM (foot_kept HX1.out hbK (fun k_ hk_ hs_ => by have g1_ : w6.heap.size ≤ k_ ∧ k_ < wx1.heap.size := hk_; have g2_ : w4.heap.size ≤ k_ ∧ k_ < w5.heap.size := hs_; have := HLE.out; have := HL5.out; have := H6.out; have := HZ1.out; have := HZ2.out; have := HZ3.out; omega)); replace HX2 := aM (foot_kept HX2.out hbK (fun k_ hk_ hs_ => by have g1_ : wx1.heap.size ≤ k_ ∧ k_ < wx2.heap.size := hk_; have g2_ : w4.heap.size ≤ k_ ∧ k_ < w5.heap.size := hs_; have := HLE.out; have := HL5.out; have := H6.out; have := HZ1.out; have := HZ2.out; have := HZ3.out; omega)); replace HX3 := aM (foot_kept HX3.out hbK (fun k_ hk_ hs_ => by have g1_ : wx2.heap.size ≤ k_ ∧ k_ < wx3.heap.size := hk_; have g2_ : w4.heap.size ≤ k_ ∧ k_ < w5.heap.size := hs_; have := HLE.out; have := HL5.out; have := H6.out; have := HZ1.out; have := HZ2.out; have := HZ3.out; omega)); replace HR7 := aM (foot_kept HR7.out hbK (fun k_ hk_ hs_ => by have g1_ : wx3.heap.size ≤ k_ := hk_; have g2_ : w4.heap.size ≤ k_ ∧ k_ < w5.heap.size := hs_; have := HLE.out; have := HL5.out; have := H6.out; have := HZ1.out; have := HZ2.out; have := HZ3.out; omega)); replace HB := aM hbB; replace HQ := aM (Nat.le_trans HQ.out hbK.1); obtain ⟨hx0, hx1, hx2, hx3, hx4, hx5⟩ := box6 FA.out.now.1; clear hbK hbB)
 go_upto_region 30 with (go_at_call 19; (with_reducible refine (laws_markIntS.calls kf (fun k_ => w6.heap.size ≤ k_ ∧ k_ < wx1.heap.size) (.slice A6_1 t1.length c6_1) t1 m0 m1 tm1 w _ HB.out HX1.out.now hm1).mono ?_); rintro e wm1 ⟨rfl, hR16, hbB, hbK⟩; clear hx0 hx1 hx2 hx3 hx4 hx5; clear HX1 hR16; replace FA := aM (foot_kept FA.out hbK (fun k_ hk_ hs_ => by have g1_ : k_ < W1.heap.size := hk_; have g2_ : w6.heap.size ≤ k_ ∧ k_ < wx1.heap.size := hs_; have := HLE.out; have := HL5.out; have := H6.out; have := HZ1.out; have := HZ2.out; have := HZ3.out; omega)); replace FW := aM (foot_kept FW.out hbK (fun k_ hk_ hs_ => by have g1_ : k_ < w4.heap.size := hk_; have g2_ : w6.heap.size ≤ k_ ∧ k_ < wx1.heap.size := hs_; have := HLE.out; have := HL5.out; have := H6.out; have := HZ1.out; have := HZ2.out; have := HZ3.out; omega)); replace HX2 := aM (foot_kept HX2.out hbK (fun k_ hk_ hs_ => by have g1_ : wx1.heap.size ≤ k_ ∧ k_ < wx2.heap.size := hk_; have g2_ : w6.heap.size ≤ k_ ∧ k_ < wx1.heap.size := hs_; have := HLE.out; have := HL5.out; have := H6.out; have := HZ1.out; have := HZ2.out; have := HZ3.out; omega)); replace HX3 := aM (foot_kept HX3.out hbK (fun k_ hk_ hs_ => by have g1_ : wx2.heap.size ≤ k_ ∧ k_ < wx3.heap.size := hk_; have g2_ : w6.heap.size ≤ k_ ∧ k_ < wx1.heap.size := hs_; have := HLE.out; have := HL5.out; have := H6.out; have := HZ1.out; have := HZ2.out; have := HZ3.out; omega)); replace HR7 := aM (foot_kept HR7.out hbK (fun k_ hk_ hs_ => by have g1_ : wx3.heap.size ≤ k_ := hk_; have g2_ : w6.heap.size ≤ k_ ∧ k_ < wx1.heap.size := hs_; have := HLE.out; have := HL5.out; have := H6.out; have := HZ1.out; have := HZ2.out; have := HZ3.out; omega)); replace HB := aM hbB; replace HQ := aM (Nat.le_trans HQ.out hbK.1); obtain ⟨hx0, hx1, hx2, hx3, hx4, hx5⟩ := box6 FA.out.now.1; clear hbK hbB)
 go_upto_region 31 with (go_at_call 20; (with_reducible refine (laws_markBoolS.calls kf (fun k_ => wx1.heap.size ≤ k_ ∧ k_ < wx2.heap.size) (.slice A6_2 t2.length c6_2) t2 m1 m2 tm2 w _ HB.out HX2.out.now hm2).mono ?_); rintro e wm2 ⟨rfl, hR16, hbB, hbK⟩; clear hx0 hx1 hx2 hx3 hx4 hx5; clear HX2 hR16; replace FA := aM (foot_kept FA.out hbK (fun k_ hk_ hs_ => by have g1_ : k_ < W1.heap.size := hk_; have g2_ : wx1.heap.size ≤ k_ ∧ k_ < wx2.heap.size := hs_; have := HLE.out; have := HL5.out; have := H6.out; have := HZ1.out; have := HZ2.out; have := HZ3.out; omega)); replace FW := aM (foot_kept FW.out hbK (fun k_ hk_ hs_ => by have g1_ : k_ < w4.heap.size := hk_; have g2_ : wx1.heap.size ≤ k_ ∧ k_ < wx2.heap.size := hs_; have := HLE.out; have := HL5.out; have := H6.out; have := HZ1.out; have := HZ2.out; have := HZ3.out; omega)); replace HX3 := aM (foot_kept HX3.out hbK (fun k_ hk_ hs_ => by have g1_ : wx2.heap.size ≤ k_ ∧ k_ < wx3.heap.size := hk_; have g2_ : wx1.heap.size ≤ k_ ∧ k_ < wx2.heap.size := hs_; have := HLE.out; have := HL5.out; have := H6.out; have := HZ1.out; have := HZ2.out; have := HZ3.out; omega)); replace HR7 := aM (foot_kept HR7.out hbK (fun k_ hk_ hs_ => by have g1_ : wx3.heap.size ≤ k_ := hk_; have g2_ : wx1.heap.size ≤ k_ ∧ k_ < wx2.heap.size := hs_; have := HLE.out; have := HL5.out; have := H6.out; have := HZ1.out; have := HZ2.out; have := HZ3.out; omega)); replace HB := aM hbB; replace HQ := aM (Nat.le_trans HQ.out hbK.1); obtain ⟨hx0, hx1, hx2, hx3, hx4, hx5⟩ := box6 FA.out.now.1; clear hbK hbB)
 go_upto_region 32 with (go_at_call 19; (with_reducible refine (laws_markIntS.calls kf (fun k_ => wx2.heap.size ≤ k_ ∧ k_ < wx3.heap.size) (.slice A6_3 t3.length c6_3) t3 m2 m3 tm3 w _ HB.out HX3.out.now hm3).mono ?_); rintro e wm3 ⟨rfl, hR16, hbB, hbK⟩; clear hx0 hx1 hx2 hx3 hx4 hx5; clear HX3 hR16; replace FA := aM (foot_kept FA.out hbK (fun k_ hk_ hs_ => by have g1_ : k_ < W1.heap.size := hk_; have g2_ : wx2.heap.size ≤ k_ ∧ k_ < wx3.heap.size := hs_; have := HLE.out; have := HL5.out; have := H6.out; have := HZ1.out; have := HZ2.out; have := HZ3.out; omega)); replace FW := aM (foot_kept FW.out hbK (fun k_ hk_ hs_ => by have g1_ : k_ < w4.heap.size := hk_; have g2_ : wx2.heap.size ≤ k_ ∧ k_ < wx3.heap.size := hs_; have := HLE.out; have := HL5.out; have := H6.out; have := HZ1.out; have := HZ2.out; have := HZ3.out; omega)); replace HR7 := aM (foot_kept HR7.out hbK (fun k_ hk_ hs_ => by have g1_ : wx3.heap.size ≤ k_ := hk_; have g2_ : wx2.heap.size ≤ k_ ∧ k_ < wx3.heap.size := hs_; have := HLE.out; have := HL5.out; have := H6.out; have := HZ1.out; have := HZ2.out; have := HZ3.out; omega)); replace HB := aM hbB; replace HQ := aM (Nat.le_trans HQ.out hbK.1); obtain ⟨hx0, hx1, hx2, hx3, hx4, hx5⟩ := box6 FA.out.now.1; clear hbK hbB)
 go_upto_region 35 with (go_at_call 14; (with_reducible refine (laws_eqRouteS.calls kf A7 c7 s1 A9 c9 s1 true _ (Kd.R_reads' HR7.out.now).2.2 (Kd.R_reads' HR7.out.now).2.1 (Kd.R_reads' FW.out.now).2.2 (Kd.R_reads' FW.out.now).2.1 heb).mono ?_); rintro e w17 ⟨rfl, hb⟩; clear hx0 hx1 hx2 hx3 hx4 hx5; replace FA := fB FA hb; replace FW := fB FW hb; replace HR7 := fB HR7 hb; replace HB := aB HB hb; replace HQ := aM (Nat.le_trans HQ.out hb.size); obtain ⟨hx0, hx1, hx2, hx3, hx4, hx5⟩ := box6 FA.out.now.1; clear hb)
 go_upto_region 37 with (go_at_call 21; (with_reducible refine (laws_markRouteS.calls kf (fun k_ => wx3.heap.size ≤ k_) (.slice A7 s1.length c7) s1 1 hh G w _ HB.out HR7.out.now hmg).mono ?_); rintro e w18 ⟨rfl, hR18, hbB, hbK⟩; clear hx0 hx1 hx2 hx3 hx4 hx5; clear HR7; replace FA := aM (foot_kept FA.out hbK (fun k_ hk_ hs_ => by have g1_ : k_ < W1.heap.size := hk_; have g2_ : wx3.heap.size ≤ k_ := hs_; have := HLE.out; have := HL5.out; have := H6.out; have := HZ1.out; have := HZ2.out; have := HZ3.out; omega)); replace FW := aM (foot_kept FW.out hbK (fun k_ hk_ hs_ => by have g1_ : k_ < w4.heap.size := hk_; have g2_ : wx3.heap.size ≤ k_ := hs_; have := HLE.out; have := HL5.out; have := H6.out; have := HZ1.out; have := HZ2.out; have := HZ3.out; omega)); replace HB := aM hbB; replace HQ := aM (Nat.le_trans HQ.out hbK.1); obtain ⟨hx0, hx1, hx2, hx3, hx4, hx5⟩ := box6 FA.out.now.1; have HR14 := aM (foot_R (Kd.R_mono (ok' := fun _ => True) hR18 (fun _ _ => trivial))); clear hbK hbB hR18)
 go_upto_region 42 with (go_at_call 22; (with_reducible refine (held_at kf A7 c7 G s1.length hGl 1 hh _ (Kd.R_reads' HR14.out.now).2.2 (Kd.R_reads' HR14.out.now).2.1 hhb).mono ?_); rintro e w19 ⟨rfl, hd⟩; have hb := drawn_below hd; clear hd; clear hx0 hx1 hx2 hx3 hx4 hx5; replace FA := fB FA hb; replace FW := fB FW hb; replace HR14 := fB HR14 hb; replace HB := aB HB hb; replace HQ := aM (Nat.le_trans HQ.out hb.size); obtain ⟨hx0, hx1, hx2, hx3, hx4, hx5⟩ := box6 FA.out.now.1; clear hb)
 go_wp2_with (first | (go_at_call 10; (with_reducible refine (toNet_any (kf := kf) w.heap.size HB.out.size A0_0 c0_0 l0_0 A0_1 c0_1 l0_1 A0_2 c0_2 l0_2 A0_3 c0_3 l0_3 A0_4 c0_4 l0_4 A0_5 c0_5 l0_5 q0 q1 q2 q3 q4 q5 FA.out.now.2.1 hc0_0 FA.out.now.2.2.1 hc0_1 FA.out.now.2.2.2.1 hc0_2 FA.out.now.2.2.2.2.1 hc0_3 FA.out.now.2.2.2.2.2.1 hc0_4 FA.out.now.2.2.2.2.2.2.1 hc0_5 hto).mono ?_); rintro e w21a ⟨A20_0, c20_0, A20_1, c20_1, A20_2, c20_2, A20_3, c20_3, A20_4, c20_4, A20_5, c20_5, rfl, hN_, -, hb⟩; clear hx0 hx1 hx2 hx3 hx4 hx5; replace FA := fB FA hb; replace FW := fB FW hb; replace HR14 := fB HR14 hb; replace HB := aB HB hb; replace HQ := aM (Nat.le_trans HQ.out hb.size); obtain ⟨hx0, hx1, hx2, hx3, hx4, hx5⟩ := box6 FA.out.now.1; clear hb; have HN20 := aM (NP.foot hN_); clear hN_) | (go_at_call 11; (with_reducible refine (laws_toIntS.calls kf A1 c1 l1 t1 _ FA.out.now.2.2.2.2.2.2.2.1 hc1 ht1).mono ?_); rintro e w21r1 ⟨v3, rfl, hR_, hb⟩; clear hx0 hx1 hx2 hx3 hx4 hx5; replace FA := fB FA hb; replace FW := fB FW hb; replace HR14 := fB HR14 hb; replace HN20 := fB HN20 hb; replace HB := aB HB hb; replace HQ := aM (Nat.le_trans HQ.out hb.size); obtain ⟨hx0, hx1, hx2, hx3, hx4, hx5⟩ := box6 FA.out.now.1; clear hb; obtain ⟨A20_r1, c20_r1, ev_⟩ := Kd.R_slice hR_; subst ev_; have HR20_1 := aM (foot_R hR_); clear hR_) | (go_at_call 12; (with_reducible refine (laws_toBoolS.calls kf A2 c2 l2 t2 _ FA.out.now.2.2.2.2.2.2.2.2.1 hc2 ht2).mono ?_); rintro e w21r2 ⟨v3, rfl, hR_, hb⟩; clear hx0 hx1 hx2 hx3 hx4 hx5; replace FA := fB FA hb; replace FW := fB FW hb; replace HR14 := fB HR14 hb; replace HN20 := fB HN20 hb; replace HR20_1 := fB HR20_1 hb; replace HB := aB HB hb; replace HQ := aM (Nat.le_trans HQ.out hb.size); obtain ⟨hx0, hx1, hx2, hx3, hx4, hx5⟩ := box6 FA.out.now.1; clear hb; obtain ⟨A20_r2, c20_r2, ev_⟩ := Kd.R_slice hR_; subst ev_; have HR20_2 := aM (foot_R hR_); clear hR_) | (go_at_call 11; (with_reducible refine (laws_toIntS.calls kf A3 c3 l3 t3 _ FA.out.now.2.2.2.2.2.2.2.2.2 hc3 ht3).mono ?_); rintro e w21r3 ⟨v3, rfl, hR_, hb⟩; clear hx0 hx1 hx2 hx3 hx4 hx5; replace FA := fB FA hb; replace FW := fB FW hb; replace HR14 := fB HR14 hb; replace HN20 := fB HN20 hb; replace HR20_1 := fB HR20_1 hb; replace HR20_2 := fB HR20_2 hb; replace HB := aB HB hb; replace HQ := aM (Nat.le_trans HQ.out hb.size); obtain ⟨hx0, hx1, hx2, hx3, hx4, hx5⟩ := box6 FA.out.now.1; clear hb; obtain ⟨A20_r3, c20_r3, ev_⟩ := Kd.R_slice hR_; subst ev_; have HR20_3 := aM (foot_R hR_); clear hR_) | (go_at_call 13; (with_reducible refine (impl_RoutesOf_any (kf := kf) HN20.out.now (Kd.R_reads' HR20_1.out.now).2.2 (Kd.R_reads' HR20_1.out.now).2.1 (Kd.R_reads' HR20_2.out.now).2.2 (Kd.R_reads' HR20_2.out.now).2.1 (Kd.R_reads' HR20_3.out.now).2.2 (Kd.R_reads' HR20_3.out.now).2.1 him).mono ?_); rintro e w22 ⟨⟨v18, rfl, hR18⟩, hb⟩; have HB3 := HB; clear HN20 HR20_1 HR20_2 HR20_3; clear hx0 hx1 hx2 hx3 hx4 hx5; replace FA := fB FA hb; replace FW := fB FW hb; replace HR14 := fB HR14 hb; replace HB := aB HB hb; replace HQ := aM (Nat.le_trans HQ.out hb.size); obtain ⟨hx0, hx1, hx2, hx3, hx4, hx5⟩ := box6 FA.out.now.1; clear hb; obtain ⟨A18, c18, ev_, hl18, hC18⟩ := Kd.R_reads hR18; clear hR18; subst ev_) | (go_at_call 14; (with_reducible refine (laws_eqRouteS.calls kf A18 c18 s1 A9 c9 s1 true _ hC18 hl18 (Kd.R_reads' FW.out.now).2.2 (Kd.R_reads' FW.out.now).2.1 heb).mono ?_); rintro e w23 ⟨rfl, hb⟩; clear hC18 hl18; clear hx0 hx1 hx2 hx3 hx4 hx5; replace FA := fB FA hb; replace FW := fB FW hb; replace HR14 := fB HR14 hb; replace HB := aB HB hb; replace HQ := aM (Nat.le_trans HQ.out hb.size); obtain ⟨hx0, hx1, hx2, hx3, hx4, hx5⟩ := box6 FA.out.now.1; clear hb) | (go_at_call 22; (with_reducible refine (held_at kf A7 c7 G s1.length hGl 1 hh _ (Kd.R_reads' HR14.out.now).2.2 (Kd.R_reads' HR14.out.now).2.1 hhb).mono ?_); rintro e w24 ⟨rfl, hd⟩; have hb := drawn_below hd; clear hd; clear hx0 hx1 hx2 hx3 hx4 hx5; replace FA := fB FA hb; replace FW := fB FW hb; replace HR14 := fB HR14 hb; replace HB := aB HB hb; replace HQ := aM (Nat.le_trans HQ.out hb.size); obtain ⟨hx0, hx1, hx2, hx3, hx4, hx5⟩ := box6 FA.out.now.1; clear hb))
 go_ret
 exact ⟨rfl, HB.out⟩
end Go.Proofs.Ytgibacfgjmdjdaa.PFnExactIsStable
end
section
set_option linter.unusedVariables false
set_option linter.unusedSimpArgs false
namespace Go.Proofs.Ytgibacfgjmdjdaa.Reads
open Go.RowKit Go.ChangeShapes Go.WideShapes Go.Deep Go.Proofs.YtgibacfgjmdjdaaW.PrintWords
def ReadsN (P : Program) (n : Nat) (t : TypeId) {α : Type} (d : Kd α) (wf : α → Prop) : Prop :=
 ∀ (H : Type) (enc : TypeId × Value → H) (w : World) (base : Nat) (spare : Nat → Bool) (held : Bool) (cs : List Value) (x : DataW H × List MemPlace),
  DataW.trod enc P w base spare held n t cs = some x → (x.1.weights P t).all (· ≤ reachBytes) = true → ∃ a : α, d.K w a cs ∧ wf a
def Reads (P : Program) (t : TypeId) {α : Type} (d : Kd α) (wf : α → Prop) : Prop := ∀ n, ReadsN P n t d wf
theorem wf_i64 {z : Int} (h : (Lit.int .i64 z).wf = true) : -9223372036854775808 ≤ z ∧ z ≤ 9223372036854775807 := by
 simp only [Lit.wf, Bool.and_eq_true, decide_eq_true_eq] at h
 exact h
def WFI (z : Int) : Prop := -9223372036854775808 ≤ z ∧ z ≤ 9223372036854775807
def WFS (s : ByteArray) : Prop := s.size ≤ 140737488351232
def WFL {α : Type} (b : Nat) (wf : α → Prop) (l : List α) : Prop := l.length * b ≤ 140737488351232 ∧ ∀ x ∈ l, wf x
theorem int {P : Program} {n : Nat} {t : TypeId} (ht : P.underlying t = some (.int .i64)) : ReadsN P n t (Kd.int .i64) WFI := by
 intro H enc w base spare held cs x h _
 obtain ⟨z, rfl, rfl, hw⟩ := DataW.trod_int ht h
 exact ⟨z, rfl, wf_i64 hw⟩
theorem bool {P : Program} {n : Nat} {t : TypeId} (ht : P.underlying t = some .bool) : ReadsN P n t Kd.bool (fun _ => True) := by
 intro H enc w base spare held cs x h _
 obtain ⟨z, rfl, rfl⟩ := DataW.trod_bool ht h
 exact ⟨z, rfl, trivial⟩
theorem string {P : Program} {n : Nat} {t : TypeId} (ht : P.underlying t = some .string) : ReadsN P n t Kd.string WFS := by
 intro H enc w base spare held cs x h hr
 obtain ⟨z, rfl, rfl, _⟩ := DataW.trod_string ht h
 refine ⟨z, rfl, ?_⟩
 simp [DataW.weights, reachBytes] at hr
 exact (show z.size ≤ 140737488351232 from of_decide_eq_true hr)
theorem all_of {H : Type} {P : Program} {e : TypeId} : ∀ {l : List (DataW H)}, (DataW.weightsAll P e l).all (· ≤ reachBytes) = true → ∀ d ∈ l, (d.weights P e).all (· ≤ reachBytes) = true
 | [], _, d, hd => by cases hd
 | y :: r, h, d, hd => by
  simp only [DataW.weightsAll, List.all_append, Bool.and_eq_true] at h
  rcases List.mem_cons.1 hd with rfl | hd
  ·exact h.1
  ·exact all_of h.2 d hd
theorem slice {P : Program} {n : Nat} {t e : TypeId} {α : Type} {d : Kd α} {wf : α → Prop} {b : Nat} (ht : P.underlying t = some (.slice e)) (hc : P.cellsOf e = d.sz) (hb : P.bytesOf e = b) (he : ∀ m, m < n → ReadsN P m e d wf) :
  ReadsN P n t (Kd.slice e d) (WFL b wf) := by
 intro H enc w base spare held cs x h hr
 cases n with
 | zero => simp [DataW.trod] at h
 | succ n =>
  have h' := h
  simp only [DataW.trod, ht] at h'
  match cs, h' with
  | [.slice none 0 0], h' =>
   refine ⟨[], ⟨none, 0, rfl, Nat.le_refl _, rfl, by simp, fun h => absurd h (Nat.lt_irrefl 0)⟩, by simp, fun x hx => by cases hx⟩
  | [.slice (some a) len cap], h' =>
   simp only at h'
   split at h'
   ·rename_i hcond
    obtain ⟨elems, hel, h2⟩ := Option.bind_eq_some_iff.1 h'
    obtain ⟨rest, hrest, rfl⟩ := Option.map_eq_some_iff.1 h2
    simp only [DataW.weights, ht, List.all_cons, List.all_append, Bool.and_eq_true, hb, List.length_map, decide_eq_true_eq] at hr
    have hlen : elems.length = len := by simpa using mapM_some_length hel
    have hget : ∀ i, i < len → ∃ y : α, wf y ∧ ∃ c, c.length = d.sz ∧ d.K w y c ∧ ∀ j u, c[j]? = some u → w.cell? (a.add (i * d.sz + j)) = some u := by
     intro i hi
     have h3 := mapM_some_get hel i i (by simp [hi])
     rw [List.getElem?_eq_getElem (by omega)] at h3
     obtain ⟨cs', hcs, htr⟩ := Option.bind_eq_some_iff.1 h3
     obtain ⟨y, hK, hw⟩ := he n (Nat.lt_succ_self n) H enc w base spare held cs' _ htr (all_of hr.2.1 _ (List.mem_map.2 ⟨elems[i]'(by omega), List.getElem_mem _, rfl⟩))
     obtain ⟨_, hcl, hat⟩ := World.cells?_some hcs
     rw [hc] at hcl hat
     refine ⟨y, hw, cs', hcl, hK, fun j u hj => ?_⟩
     have hjl : j < d.sz := by
      rw [← hcl]
      exact (List.getElem?_eq_some_iff.1 hj).1
     rw [← Deep.add_add, hat j hjl, hj]
    rcases Nat.eq_zero_or_pos len with hz | hz
    ·subst hz
     refine ⟨[], ⟨some a, cap, rfl, Nat.zero_le _, rfl, by simp, fun h => absurd h (Nat.lt_irrefl 0)⟩, by simp, fun x hx => by cases hx⟩
    have hinh : Inhabited α := ⟨(hget 0 hz).choose⟩
    obtain ⟨f, hf⟩ := choose_lt hget
    refine ⟨(List.range len).map f, ⟨some a, cap, ?_, ?_, ?_, ?_, ?_⟩, ?_, ?_⟩
    ·simp
    ·simpa using hcond.2.1
    ·simp
    ·have := hcond.2.2
     have := hcond.2.1
     simp [maxLen] at *
     omega
    ·intro _
     refine ⟨a, rfl, fun j p hj => ?_⟩
     have hjl : j < len := by
      have := (List.getElem?_eq_some_iff.1 hj).1
      simpa using this
     simp [hjl] at hj
     subst hj
     obtain ⟨_, c, h1, h2, h3⟩ := hf j hjl
     exact ⟨c, h1, h2, h3⟩
    ·have h4 := hr.1
     simp only [reachBytes] at h4
     have : len * b ≤ (elems.length + rest.length) * b := Nat.mul_le_mul_right _ (by omega)
     simp
     omega
    ·intro y hy
     obtain ⟨i, hi, rfl⟩ := List.mem_map.1 hy
     exact (hf i (by simpa using hi)).1
   ·cases h'
theorem intR {P : Program} {t : TypeId} (ht : P.underlying t = some (.int .i64)) : Reads P t (Kd.int .i64) WFI := fun _ => int ht
theorem boolR {P : Program} {t : TypeId} (ht : P.underlying t = some .bool) : Reads P t Kd.bool (fun _ => True) := fun _ => bool ht
theorem stringR {P : Program} {t : TypeId} (ht : P.underlying t = some .string) : Reads P t Kd.string WFS := fun _ => string ht
theorem sliceR {P : Program} {t e : TypeId} {α : Type} {d : Kd α} {wf : α → Prop} {b : Nat} (ht : P.underlying t = some (.slice e)) (hc : P.cellsOf e = d.sz) (hb : P.bytesOf e = b) (he : Reads P e d wf) : Reads P t (Kd.slice e d) (WFL b wf) :=
 fun _ => slice ht hc hb (fun m _ => he m)
def FieldsN (P : Program) (n : Nat) (fs : List Field) (off : Nat) {α : Type} (d : Kd α) (wf : α → Prop) : Prop :=
 ∀ (H : Type) (enc : TypeId × Value → H) (w : World) (base : Nat) (spare : Nat → Bool) (held : Bool) (cs : List Value) (xs : List (DataW H × List MemPlace)),
  (fs.mapM fun f => DataW.trod enc P w base spare held n f.type ((cs.drop f.offset).take (P.cellsOf f.type))) = some xs →
  (DataW.weightsEach P (fs.map (·.type)) (xs.map (·.1))).all (· ≤ reachBytes) = true → cs.length = off + d.sz → ∃ a : α, d.K w a (cs.drop off) ∧ wf a
theorem last {P : Program} {n : Nat} {f : Field} {off : Nat} {α : Type} {d : Kd α} {wf : α → Prop} (ho : f.offset = off) (hc : P.cellsOf f.type = d.sz) (h : ReadsN P n f.type d wf) : FieldsN P n [f] off d wf := by
 intro H enc w base spare held cs xs hm hr hl
 simp only [List.mapM_cons, List.mapM_nil, Option.bind_eq_bind, Option.bind_eq_some_iff, Option.pure_def, Option.some.injEq] at hm
 obtain ⟨y, hy, _, rfl, rfl⟩ := hm
 rw [ho, hc, List.take_of_length_le (by rw [List.length_drop]; omega)] at hy
 simp only [List.map_cons, List.map_nil, DataW.weightsEach, List.append_nil] at hr
 exact h H enc w base spare held _ _ hy hr
theorem more {P : Program} {n : Nat} {f : Field} {fs : List Field} {off : Nat} {α β : Type} {d : Kd α} {d' : Kd β} {wf : α → Prop} {wf' : β → Prop} (ho : f.offset = off) (hc : P.cellsOf f.type = d.sz)
  (h : ReadsN P n f.type d wf) (h' : FieldsN P n fs (off + d.sz) d' wf') : FieldsN P n (f :: fs) off (Kd.pair d d') (fun x => wf x.1 ∧ wf' x.2) := by
 intro H enc w base spare held cs xs hm hr hl
 simp only [List.mapM_cons, Option.bind_eq_bind, Option.bind_eq_some_iff, Option.pure_def, Option.some.injEq] at hm
 obtain ⟨y, hy, ys, hys, rfl⟩ := hm
 simp only [List.map_cons, DataW.weightsEach, List.all_append, Bool.and_eq_true] at hr
 have hl' : cs.length = off + (d.sz + d'.sz) := hl
 rw [ho, hc] at hy
 obtain ⟨a, hK, hw⟩ := h H enc w base spare held _ _ hy hr.1
 obtain ⟨b, hK', hw'⟩ := h' H enc w base spare held cs ys hys hr.2 (by omega)
 refine ⟨(a, b), ⟨_, _, ?_, hK, hK'⟩, hw, hw'⟩
 have := (List.take_append_drop d.sz (cs.drop off)).symm
 rwa [List.drop_drop] at this
theorem struct {P : Program} {n : Nat} {t : TypeId} {fs : Array Field} {α β : Type} {d : Kd α} {wf : α → Prop} (f : β → α) (g : α → β) (hfg : ∀ a, f (g a) = a) (ht : P.underlying t = some (.struct fs)) (hc : P.cellsOf t = d.sz)
  (h : ∀ m, m < n → FieldsN P m fs.toList 0 d wf) : ReadsN P n t (Kd.iso d f) (fun x => wf (f x)) := by
 intro H enc w base spare held cs x hx hr
 cases n with
 | zero => simp [DataW.trod] at hx
 | succ n =>
  simp only [DataW.trod, ht] at hx
  have hx' : cs.length = P.cellsOf t ∧ ∃ xs, (fs.toList.mapM fun f => DataW.trod enc P w base spare held n f.type ((cs.drop f.offset).take (P.cellsOf f.type))) = some xs ∧ (.agg (xs.map (·.1)), xs.flatMap (·.2)) = x := by
   split at hx <;> simp_all
  obtain ⟨hl, xs, hm, rfl⟩ := hx'
  simp only [DataW.weights, ht] at hr
  obtain ⟨a, hK, hw⟩ := h n (Nat.lt_succ_self n) H enc w base spare held cs xs hm hr (by rw [hl, hc]; omega)
  rw [List.drop_zero] at hK
  exact ⟨g a, by show d.K w (f (g a)) cs; rw [hfg]; exact hK, by show wf (f (g a)); rw [hfg]; exact hw⟩
theorem each_of {H : Type} {P : Program} : ∀ {ts : List TypeId} {ds : List (DataW H)} {j : Nat} {t : TypeId} {d : DataW H}, (DataW.weightsEach P ts ds).all (· ≤ reachBytes) = true → ts[j]? = some t → ds[j]? = some d → (d.weights P t).all (· ≤ reachBytes) = true
 | [], _, _, _, _, _, h, _ => by simp at h
 | _ :: _, [], _, _, _, _, _, h => by simp at h
 | t0 :: ts, d0 :: ds, 0, t, d, h, ht, hd => by
  simp only [List.getElem?_cons_zero, Option.some.injEq] at ht hd
  subst ht hd
  simp only [DataW.weightsEach, List.all_append, Bool.and_eq_true] at h
  exact h.1
 | t0 :: ts, d0 :: ds, j + 1, t, d, h, ht, hd => by
  simp only [DataW.weightsEach, List.all_append, Bool.and_eq_true] at h
  exact each_of (j := j) h.2 (by simpa using ht) (by simpa using hd)
theorem arg {H : Type} {enc : TypeId × Value → H} {P : Program} {W : World} {base : Nat} {spare : Nat → Bool} {held : Bool} {t : TypeId} {v : Value} {d : DataW H} {ps : List MemPlace} {ts : List TypeId} {ds : List (DataW H)} {j : Nat} {α : Type} {k : Kd α} {wf : α → Prop}
  (hk : Reads P t k wf) (hsz : (DataW.weightsEach P ts ds).all (· ≤ reachBytes) = true) (ht : ts[j]? = some t) (hd : ds[j]? = some d) (h : DataW.Trod enc P W base spare held t v d ps) : ∃ a : α, k.K W a v.cells.toList ∧ wf a := by
 obtain ⟨fuel, hf⟩ := h
 exact hk fuel H enc W base spare held _ _ hf (each_of hsz ht hd)
end Go.Proofs.Ytgibacfgjmdjdaa.Reads
end
section
set_option linter.unusedVariables false
namespace Go.Proofs.Ytgibacfgjmdjdaa.PFnExactIsStable
open Go.RowKit Go.Proofs.YtgibacfgjmdjdaaW.PrintWords Go.Proofs.YtgibacfgjmdjdaaW.PrintLast Go.Proofs.Ytgibacfgjmdjdaa
def wf107 (x : S107) : Prop := Reads.WFI x.f0 ∧ (Reads.WFI x.f1 ∧ (Reads.WFI x.f2))
def wf109 (x : S109) : Prop := Reads.WFI x.f0 ∧ (Reads.WFI x.f1 ∧ (Reads.WFI x.f2 ∧ (Reads.WFI x.f3 ∧ (Reads.WFI x.f4))))
def wf111 (x : S111) : Prop := Reads.WFI x.f0 ∧ (Reads.WFI x.f1 ∧ (Reads.WFI x.f2 ∧ (Reads.WFI x.f3)))
def laws_FnExactRoutesOf.Pure : Prop := ∀ (l0_0 : List ByteArray) (l0_1 : List (S107)) (l0_2 : List Int) (l0_3 : List Int) (l0_4 : List (S109)) (l0_5 : List (S111)) (l1 : List Int) (l2 : List Bool) (l3 : List Int), (Reads.WFL 16 Reads.WFS) l0_0 → (Reads.WFL 24 wf107) l0_1 → (Reads.WFL 8 Reads.WFI) l0_2 → (Reads.WFL 8 Reads.WFI) l0_3 → (Reads.WFL 40 wf109) l0_4 → (Reads.WFL 32 wf111) l0_5 → (Reads.WFL 8 Reads.WFI) l1 → (Reads.WFL 1 (fun _ : Bool => True)) l2 → (Reads.WFL 8 Reads.WFI) l3 → ∃ k, laws_FnExactRoutesOf.f k l0_0 l0_1 l0_2 l0_3 l0_4 l0_5 l1 l2 l3 = some true
theorem rk107 : Reads.Reads Try.prog 107 k107 wf107 := fun _ => Reads.struct (fun x : S107 => (x.f0, x.f1, x.f2)) (fun p => ⟨p.1, p.2.1, p.2.2⟩) (fun _ => rfl) Try.underlying107 (by kernel_rfl) (fun m _ => (Reads.more rfl (by kernel_rfl) ((Reads.intR Try.underlying3) m) (Reads.more rfl (by kernel_rfl) ((Reads.intR Try.underlying3) m) (Reads.last rfl (by kernel_rfl) ((Reads.intR Try.underlying3) m)))))
theorem rk109 : Reads.Reads Try.prog 109 k109 wf109 := fun _ => Reads.struct (fun x : S109 => (x.f0, x.f1, x.f2, x.f3, x.f4)) (fun p => ⟨p.1, p.2.1, p.2.2.1, p.2.2.2.1, p.2.2.2.2⟩) (fun _ => rfl) Try.underlying109 (by kernel_rfl) (fun m _ => (Reads.more rfl (by kernel_rfl) ((Reads.intR Try.underlying3) m) (Reads.more rfl (by kernel_rfl) ((Reads.intR Try.underlying3) m) (Reads.more rfl (by kernel_rfl) ((Reads.intR Try.underlying3) m) (Reads.more rfl (by kernel_rfl) ((Reads.intR Try.underlying3) m) (Reads.last rfl (by kernel_rfl) ((Reads.intR Try.underlying3) m)))))))
theorem rk111 : Reads.Reads Try.prog 111 k111 wf111 := fun _ => Reads.struct (fun x : S111 => (x.f0, x.f1, x.f2, x.f3)) (fun p => ⟨p.1, p.2.1, p.2.2.1, p.2.2.2⟩) (fun _ => rfl) Try.underlying111 (by kernel_rfl) (fun m _ => (Reads.more rfl (by kernel_rfl) ((Reads.intR Try.underlying3) m) (Reads.more rfl (by kernel_rfl) ((Reads.intR Try.underlying3) m) (Reads.more rfl (by kernel_rfl) ((Reads.intR Try.underlying3) m) (Reads.last rfl (by kernel_rfl) ((Reads.intR Try.underlying3) m))))))
end Go.Proofs.Ytgibacfgjmdjdaa.PFnExactIsStable
end
section
set_option linter.unusedVariables false
set_option linter.unusedSimpArgs false
namespace Go.Proofs.Ytgibacfgjmdjdaa.Plain
open Go.RowKit Go.Proofs.YtgibacfgjmdjdaaW.PrintWords
section
variable {α β : Type}
theorem ifp {c : Prop} [Decidable c] {f g : Nat → Option α} {r : α} (h : c) (k : Ev f r) : Ev (fun n => if c then f n else g n) r := by
 obtain ⟨K, hK⟩ := k
 exact ⟨K, fun n hn => by simp only [if_pos h]; exact hK n hn⟩
theorem ifn {c : Prop} [Decidable c] {f g : Nat → Option α} {r : α} (h : ¬ c) (k : Ev g r) : Ev (fun n => if c then f n else g n) r := by
 obtain ⟨K, hK⟩ := k
 exact ⟨K, fun n hn => by simp only [if_neg h]; exact hK n hn⟩
theorem bnd {g : Nat → Option α} {f : Nat → α → Option β} {a : α} {r : β} (h : Ev g a) (k : Ev (fun n => f n a) r) : Ev (fun n => (g n).bind (f n)) r := Ev.bind h k
theorem bnd0 {g : Option α} {f : Nat → α → Option β} {a : α} {r : β} (h : g = some a) (k : Ev (fun n => f n a) r) : Ev (fun n => g.bind (f n)) r := by
 obtain ⟨K, hK⟩ := k
 exact ⟨K, fun n hn => by rw [h]; exact hK n hn⟩
theorem stp {g f : Nat → Option α} {r : α} (h : ∀ k, g (k + 1) = f k) (k : Ev f r) : Ev g r := Ev.step h k
theorem evc {g f : Nat → Option α} {r : α} (h : ∀ k, g k = f k) (k : Ev f r) : Ev g r := Ev.congr h k
theorem sm (r : α) : Ev (fun _ => some r) r := Ev.now r
theorem one {g : Option α} {r : α} (h : g = some r) : Ev (fun _ => g) r := ⟨0, fun _ _ => h⟩
end
theorem up {i n : Int} (h0 : 0 ≤ i) (h : i < n) (hn : n ≤ 9223372036854775807) : wrap64 (i + 1) = i + 1 := by
 unfold wrap64
 omega
theorem w64 {x : Int} (h0 : -9223372036854775808 ≤ x) (h : x ≤ 9223372036854775807) : wrap64 x = x := by
 unfold wrap64
 omega
theorem set_take {α β : Type} (f : α → β) (xs : List α) (out : List β) (i : Nat) (x : α) (hx : xs[i]? = some x) (hl : out.length = xs.length) (h : out.take i = (xs.take i).map f) :
  (out.set i (f x)).take (i + 1) = (xs.take (i + 1)).map f := by
 have hi : i < xs.length := (List.getElem?_eq_some_iff.1 hx).1
 rw [List.take_succ_eq_append_getElem (by simp; omega), List.take_succ_eq_append_getElem hi, List.map_append, List.map_singleton, ← h]
 congr 1
 ·rw [List.take_set]
  apply List.set_eq_of_length_le
  simp
  omega
 ·rw [List.getElem_set_self]
  rw [(List.getElem?_eq_some_iff.1 hx).2]
theorem copy {α β : Type} (f : α → β) (xs : List α) (L : Int → List β → Nat → Option (List β))
  (hend : ∀ out, Ev (L (xs.length : Int) out) out)
  (hstep : ∀ (i : Nat) (out : List β) (r : List β) (x : α), xs[i]? = some x → out.length = xs.length → Ev (L ((i : Int) + 1) (out.set i (f x))) r → Ev (L (i : Int) out) r) :
  ∀ out, out.length = xs.length → Ev (L 0 out) (xs.map f) := by
 have key : ∀ (d i : Nat) (out : List β), i + d = xs.length → out.length = xs.length → out.take i = (xs.take i).map f → Ev (L (i : Int) out) (xs.map f) := by
  intro d
  induction d with
  | zero =>
   intro i out hd hl ht
   have hi : i = xs.length := by omega
   subst hi
   rw [List.take_of_length_le (by omega), List.take_of_length_le (by omega)] at ht
   subst ht
   exact hend _
  | succ d ih =>
   intro i out hd hl ht
   have hi : i < xs.length := by omega
   have hx : xs[i]? = some xs[i] := List.getElem?_eq_getElem hi
   refine hstep i out _ _ hx hl ?_
   have := ih (i + 1) (out.set i (f xs[i])) (by omega) (by simpa using hl) (set_take f xs out i _ hx hl ht)
   rwa [show ((i + 1 : Nat) : Int) = (i : Int) + 1 by omega] at this
 intro out hl
 have := key xs.length 0 out (by omega) hl (by simp)
 simpa using this
theorem same {α : Type} (xs : List α) (L : Int → Nat → Option Bool)
  (hend : Ev (L (xs.length : Int)) true)
  (hstep : ∀ (i : Nat) (x : α), xs[i]? = some x → Ev (L ((i : Int) + 1)) true → Ev (L (i : Int)) true) : Ev (L 0) true := by
 have key : ∀ (d i : Nat), i + d = xs.length → Ev (L (i : Int)) true := by
  intro d
  induction d with
  | zero =>
   intro i hd
   have hi : i = xs.length := by omega
   subst hi
   exact hend
  | succ d ih =>
   intro i hd
   have hi : i < xs.length := by omega
   refine hstep i _ (List.getElem?_eq_getElem hi) ?_
   have := ih (i + 1) (by omega)
   rwa [show ((i + 1 : Nat) : Int) = (i : Int) + 1 by omega] at this
 simpa using key xs.length 0 (by omega)
theorem getD_some {α : Type} {xs : List α} {i : Nat} {x d : α} (h : xs[i]? = some x) : xs.getD ((i : Int).toNat) d = x := by
 simp [List.getD, h]
end Go.Proofs.Ytgibacfgjmdjdaa.Plain
end
section
set_option linter.unusedVariables false
set_option linter.unusedSimpArgs false
namespace Go.Proofs.Ytgibacfgjmdjdaa.Pure
open Go.RowKit Go.Proofs.Ytgibacfgjmdjdaa Go.Proofs.Ytgibacfgjmdjdaa.PFnExactIsStable Go.Proofs.YtgibacfgjmdjdaaW.PrintWords Go.Proofs.YtgibacfgjmdjdaaW.PrintLast Go.Proofs.Ytgibacfgjmdjdaa.Plain
theorem toI_is (l : List Int) (hl : l.length ≤ 35184372088832) : Ev (fun k => laws_toIntS.f k l) l := by
 refine evc (fun k => laws_toIntS.f.eq_1 ..) (ifp (by omega) (ifp (by omega) ?_))
 have := copy (fun x : Int => x) l (fun i out k => laws_toIntS.l0 k l out i) ?_ ?_ (List.replicate (l.length : Int).toNat 0) (by simp)
 ·simpa using this
 ·intro out
  exact stp (fun k => laws_toIntS.l0.eq_2 ..) (ifn (by omega) (sm _))
 ·intro i out r x hx hlen hk
  have hi : i < l.length := (List.getElem?_eq_some_iff.1 hx).1
  refine stp (fun k => laws_toIntS.l0.eq_2 ..) (ifp (by omega) (ifp (by omega) (ifp (by omega) ?_)))
  rw [show rd l (i : Int) = x from getD_some hx, up (by omega) (by omega : (i : Int) < (l.length : Int)) (by omega), Int.toNat_natCast]
  exact hk
theorem eqI_self (l : List Int) (hl : l.length ≤ 140737488351232) : Ev (fun k => laws_eqIntS.f k l l) true := by
 refine evc (fun k => laws_eqIntS.f.eq_1 ..) (ifp rfl ?_)
 refine same l (fun i k => laws_eqIntS.l0 k l l i) ?_ ?_
 ·exact stp (fun k => laws_eqIntS.l0.eq_2 ..) (ifn (by omega) (sm _))
 ·intro i x hx hk
  have hi : i < l.length := (List.getElem?_eq_some_iff.1 hx).1
  refine stp (fun k => laws_eqIntS.l0.eq_2 ..) (ifp (by omega) (ifp (by omega) (ifp (by omega) (ifp rfl ?_))))
  rw [up (by omega) (by omega : (i : Int) < (l.length : Int)) (by omega)]
  exact hk
theorem toB_is (l : List Bool) (hl : l.length ≤ 281474976710656) : Ev (fun k => laws_toBoolS.f k l) l := by
 refine evc (fun k => laws_toBoolS.f.eq_1 ..) (ifp (by omega) (ifp (by omega) ?_))
 have := copy (fun x : Bool => x) l (fun i out k => laws_toBoolS.l0 k l out i) ?_ ?_ (List.replicate (l.length : Int).toNat false) (by simp)
 ·simpa using this
 ·intro out
  exact stp (fun k => laws_toBoolS.l0.eq_2 ..) (ifn (by omega) (sm _))
 ·intro i out r x hx hlen hk
  have hi : i < l.length := (List.getElem?_eq_some_iff.1 hx).1
  refine stp (fun k => laws_toBoolS.l0.eq_2 ..) (ifp (by omega) (ifp (by omega) (ifp (by omega) ?_)))
  rw [show rdOf false l (i : Int) = x from getD_some hx, up (by omega) (by omega : (i : Int) < (l.length : Int)) (by omega), Int.toNat_natCast]
  exact hk
theorem eqB_self (l : List Bool) (hl : l.length ≤ 281474976710656) : Ev (fun k => laws_eqBoolS.f k l l) true := by
 refine evc (fun k => laws_eqBoolS.f.eq_1 ..) (ifp rfl ?_)
 refine same l (fun i k => laws_eqBoolS.l0 k l l i) ?_ ?_
 ·exact stp (fun k => laws_eqBoolS.l0.eq_2 ..) (ifn (by omega) (sm _))
 ·intro i x hx hk
  have hi : i < l.length := (List.getElem?_eq_some_iff.1 hx).1
  refine stp (fun k => laws_eqBoolS.l0.eq_2 ..) (ifp (by omega) (ifp (by omega) (ifp (by omega) (ifn (by simp) ?_))))
  rw [up (by omega) (by omega : (i : Int) < (l.length : Int)) (by omega)]
  exact hk
theorem szStr_is (l : List ByteArray) (hs : ∀ x ∈ l, x.size ≤ 140737488351232) (hl : l.length ≤ 140737488351232) (a : Int) (h0 : 0 ≤ a) (h1 : a ≤ 1048576) : ∃ v, Ev (fun k => laws_szStringS.f k l a) v ∧ v ≤ a := by
 have key : ∀ (d i : Nat) (a : Int), i + d = l.length → 0 ≤ a → a ≤ 1048576 → ∃ v, Ev (fun k => laws_szStringS.l0 k l a (i : Int)) v ∧ v ≤ a := by
  intro d
  induction d with
  | zero =>
   intro i a hd h0 h1
   exact ⟨a, stp (fun k => laws_szStringS.l0.eq_2 ..) (ifn (by omega) (sm _)), Int.le_refl _⟩
  | succ d ih =>
   intro i a hd h0 h1
   have hi : i < l.length := by omega
   have hsz := hs l[i] (List.getElem_mem hi)
   have hr : rdOf ByteArray.empty l (i : Int) = l[i] := getD_some (List.getElem?_eq_getElem hi)
   by_cases hn : a - (l[i].size : Int) < 0
   ·refine ⟨-1, stp (fun k => laws_szStringS.l0.eq_2 ..) (ifp (by omega) (ifp (by omega) (ifp ?_ (sm _)))), by omega⟩
    rw [hr, w64 (by omega) (by omega)]; exact hn
   ·obtain ⟨v, hv, hle⟩ := ih (i + 1) (a - l[i].size) (by omega) (by omega) (by omega)
    refine ⟨v, stp (fun k => laws_szStringS.l0.eq_2 ..) (ifp (by omega) (ifp (by omega) (ifn ?_ ?_))), by omega⟩
    ·rw [hr, w64 (by omega) (by omega)]; exact hn
    ·rw [hr, w64 (by omega) (by omega), up (by omega) (by omega : (i : Int) < (l.length : Int)) (by omega)]
     exact hv
 by_cases hn : a - (l.length : Int) < 0
 ·refine ⟨-1, evc (fun k => laws_szStringS.f.eq_1 ..) (ifp ?_ (sm _)), by omega⟩
  rw [w64 (by omega) (by omega)]; exact hn
 ·obtain ⟨v, hv, hle⟩ := key l.length 0 (a - l.length) (by omega) (by omega) (by omega)
  refine ⟨v, evc (fun k => laws_szStringS.f.eq_1 ..) (ifn ?_ ?_), by omega⟩
  ·rw [w64 (by omega) (by omega)]; exact hn
  ·rw [w64 (by omega) (by omega)]; exact hv
theorem szOf {α : Type} {f : List α → Int → Option Int} (hf : ∀ l a, f l a = if (wrap64 (a - (l.length : Int))) < 0 then (some (-1)) else (some (wrap64 (a - (l.length : Int))))) (l : List α) (hl : l.length ≤ 140737488351232) (a : Int) (h0 : 0 ≤ a) (h1 : a ≤ 1048576) : ∃ v, f l a = some v ∧ v ≤ a := by
 rw [hf, w64 (by omega) (by omega)]
 by_cases hn : a - (l.length : Int) < 0
 ·exact ⟨-1, by rw [if_pos hn], by omega⟩
 ·exact ⟨_, by rw [if_neg hn], by omega⟩
theorem szNet_is (l0 : List ByteArray) (l1 : List S107) (l2 l3 : List Int) (l4 : List S109) (l5 : List S111) (hs : ∀ x ∈ l0, x.size ≤ 140737488351232) (h0 : l0.length ≤ 140737488351232) (h1 : l1.length ≤ 140737488351232) (h2 : l2.length ≤ 140737488351232) (h3 : l3.length ≤ 140737488351232) (h4 : l4.length ≤ 140737488351232) (h5 : l5.length ≤ 140737488351232) : ∃ v, Ev (fun k => laws_szNet.f k l0 l1 l2 l3 l4 l5 1048576) v ∧ v ≤ 1048576 := by
 obtain ⟨v0, e0, b0⟩ := szStr_is l0 hs h0 1048576 (by omega) (by omega)
 by_cases n0 : v0 < 0
 ·exact ⟨-1, evc (fun k => laws_szNet.f.eq_1 ..) (bnd e0 (ifp n0 (sm _))), by omega⟩
 obtain ⟨v1, e1, b1⟩ := szOf (f := laws_szLinkS.f) (fun _ _ => rfl) l1 h1 v0 (by omega) (by omega)
 by_cases n1 : v1 < 0
 ·exact ⟨-1, evc (fun k => laws_szNet.f.eq_1 ..) (bnd e0 (ifn n0 (bnd0 e1 (ifp n1 (sm _))))), by omega⟩
 obtain ⟨v2, e2, b2⟩ := szOf (f := laws_szIntS.f) (fun _ _ => rfl) l2 h2 v1 (by omega) (by omega)
 by_cases n2 : v2 < 0
 ·exact ⟨-1, evc (fun k => laws_szNet.f.eq_1 ..) (bnd e0 (ifn n0 (bnd0 e1 (ifn n1 (bnd0 e2 (ifp n2 (sm _))))))), by omega⟩
 obtain ⟨v3, e3, b3⟩ := szOf (f := laws_szIntS.f) (fun _ _ => rfl) l3 h3 v2 (by omega) (by omega)
 by_cases n3 : v3 < 0
 ·exact ⟨-1, evc (fun k => laws_szNet.f.eq_1 ..) (bnd e0 (ifn n0 (bnd0 e1 (ifn n1 (bnd0 e2 (ifn n2 (bnd0 e3 (ifp n3 (sm _))))))))), by omega⟩
 obtain ⟨v4, e4, b4⟩ := szOf (f := laws_szImportS.f) (fun _ _ => rfl) l4 h4 v3 (by omega) (by omega)
 by_cases n4 : v4 < 0
 ·exact ⟨-1, evc (fun k => laws_szNet.f.eq_1 ..) (bnd e0 (ifn n0 (bnd0 e1 (ifn n1 (bnd0 e2 (ifn n2 (bnd0 e3 (ifn n3 (bnd0 e4 (ifp n4 (sm _))))))))))), by omega⟩
 obtain ⟨v5, e5, b5⟩ := szOf (f := laws_szFilterS.f) (fun _ _ => rfl) l5 h5 v4 (by omega) (by omega)
 by_cases n5 : v5 < 0
 ·exact ⟨-1, evc (fun k => laws_szNet.f.eq_1 ..) (bnd e0 (ifn n0 (bnd0 e1 (ifn n1 (bnd0 e2 (ifn n2 (bnd0 e3 (ifn n3 (bnd0 e4 (ifn n4 (bnd0 e5 (ifp n5 (sm _))))))))))))), by omega⟩
 exact ⟨v5, evc (fun k => laws_szNet.f.eq_1 ..) (bnd e0 (ifn n0 (bnd0 e1 (ifn n1 (bnd0 e2 (ifn n2 (bnd0 e3 (ifn n3 (bnd0 e4 (ifn n4 (bnd0 e5 (ifn n5 (sm _))))))))))))), by omega⟩
theorem toStr_is (l : List ByteArray) (hl : l.length ≤ 8796093021952) : Ev (fun k => laws_toStringS.f k l) l := by
 refine evc (fun k => laws_toStringS.f.eq_1 ..) (ifp (by omega) (ifp (by omega) ?_))
 have := copy (fun x : ByteArray => x) l (fun i out k => laws_toStringS.l0 k l out i) ?_ ?_ (List.replicate (l.length : Int).toNat (⟨#[]⟩ : ByteArray)) (by simp)
 ·simpa using this
 ·intro out
  exact stp (fun k => laws_toStringS.l0.eq_2 ..) (ifn (by omega) (sm _))
 ·intro i out r x hx hlen hk
  have hi : i < l.length := (List.getElem?_eq_some_iff.1 hx).1
  refine stp (fun k => laws_toStringS.l0.eq_2 ..) (ifp (by omega) (ifp (by omega) (ifp (by omega) ?_)))
  rw [show rdOf ByteArray.empty l (i : Int) = x from getD_some hx, up (by omega) (by omega : (i : Int) < (l.length : Int)) (by omega), Int.toNat_natCast]
  exact hk
def cvL (x : S107) : S92 := ⟨x.f0, x.f1, x.f2⟩
def cvI (x : S109) : S95 := ⟨x.f0, x.f1, x.f2, x.f3, x.f4⟩
def cvF (x : S111) : S97 := ⟨x.f0, x.f1, x.f2, x.f3⟩
theorem toLink_is (l : List S107) (hl : l.length ≤ 5864062014634) : Ev (fun k => laws_toLinkS.f k l) (l.map cvL) := by
 refine evc (fun k => laws_toLinkS.f.eq_1 ..) (ifp (by omega) (ifp (by omega) ?_))
 refine copy cvL l (fun i out k => laws_toLinkS.l0 k l out i) ?_ ?_ (List.replicate (l.length : Int).toNat z92) (by simp)
 ·intro out
  exact stp (fun k => laws_toLinkS.l0.eq_2 ..) (ifn (by omega) (sm _))
 ·intro i out r x hx hlen hk
  have hi : i < l.length := (List.getElem?_eq_some_iff.1 hx).1
  refine stp (fun k => laws_toLinkS.l0.eq_2 ..) (ifp (by omega) (ifp (by omega) (bnd0 rfl (ifp (by omega) ?_))))
  rw [show rd_T107 l (i : Int) = x from getD_some hx, up (by omega) (by omega : (i : Int) < (l.length : Int)) (by omega), Int.toNat_natCast]
  exact hk
theorem toImport_is (l : List S109) (hl : l.length ≤ 3518437208780) : Ev (fun k => laws_toImportS.f k l) (l.map cvI) := by
 refine evc (fun k => laws_toImportS.f.eq_1 ..) (ifp (by omega) (ifp (by omega) ?_))
 refine copy cvI l (fun i out k => laws_toImportS.l0 k l out i) ?_ ?_ (List.replicate (l.length : Int).toNat z95) (by simp)
 ·intro out
  exact stp (fun k => laws_toImportS.l0.eq_2 ..) (ifn (by omega) (sm _))
 ·intro i out r x hx hlen hk
  have hi : i < l.length := (List.getElem?_eq_some_iff.1 hx).1
  refine stp (fun k => laws_toImportS.l0.eq_2 ..) (ifp (by omega) (ifp (by omega) (bnd0 rfl (ifp (by omega) ?_))))
  rw [show rd_T109 l (i : Int) = x from getD_some hx, up (by omega) (by omega : (i : Int) < (l.length : Int)) (by omega), Int.toNat_natCast]
  exact hk
theorem toFilter_is (l : List S111) (hl : l.length ≤ 4398046510976) : Ev (fun k => laws_toFilterS.f k l) (l.map cvF) := by
 refine evc (fun k => laws_toFilterS.f.eq_1 ..) (ifp (by omega) (ifp (by omega) ?_))
 refine copy cvF l (fun i out k => laws_toFilterS.l0 k l out i) ?_ ?_ (List.replicate (l.length : Int).toNat z97) (by simp)
 ·intro out
  exact stp (fun k => laws_toFilterS.l0.eq_2 ..) (ifn (by omega) (sm _))
 ·intro i out r x hx hlen hk
  have hi : i < l.length := (List.getElem?_eq_some_iff.1 hx).1
  refine stp (fun k => laws_toFilterS.l0.eq_2 ..) (ifp (by omega) (ifp (by omega) (bnd0 rfl (ifp (by omega) ?_))))
  rw [show rd_T111 l (i : Int) = x from getD_some hx, up (by omega) (by omega : (i : Int) < (l.length : Int)) (by omega), Int.toNat_natCast]
  exact hk
theorem toNet_is (l0 : List ByteArray) (l1 : List S107) (l2 l3 : List Int) (l4 : List S109) (l5 : List S111) (h0 : l0.length ≤ 8796093021952) (h1 : l1.length ≤ 5864062014634) (h2 : l2.length ≤ 17592186043904) (h3 : l3.length ≤ 17592186043904) (h4 : l4.length ≤ 3518437208780) (h5 : l5.length ≤ 4398046510976) : Ev (fun k => laws_toNet.f k l0 l1 l2 l3 l4 l5) (l0, l1.map cvL, l2, l3, l4.map cvI, l5.map cvF) :=
 evc (fun k => laws_toNet.f.eq_1 ..) (bnd (toStr_is l0 h0) (bnd (toLink_is l1 h1) (bnd (toI_is l2 (by omega)) (bnd (toI_is l3 (by omega)) (bnd (toImport_is l4 h4) (bnd (toFilter_is l5 h5) (sm _)))))))
theorem eqStr_self (l : List ByteArray) (hl : l.length ≤ 140737488351232) : Ev (fun k => laws_eqStringS.f k l l) true := by
 refine evc (fun k => laws_eqStringS.f.eq_1 ..) (ifp rfl ?_)
 refine same l (fun i k => laws_eqStringS.l0 k l l i) ?_ ?_
 ·exact stp (fun k => laws_eqStringS.l0.eq_2 ..) (ifn (by omega) (sm _))
 ·intro i x hx hk
  have hi : i < l.length := (List.getElem?_eq_some_iff.1 hx).1
  refine stp (fun k => laws_eqStringS.l0.eq_2 ..) (ifp (by omega) (ifp (by omega) (ifp (by omega) (ifp rfl ?_))))
  rw [up (by omega) (by omega : (i : Int) < (l.length : Int)) (by omega)]
  exact hk
theorem eqLink_self (l : List S92) (hl : l.length ≤ 140737488351232) : Ev (fun k => laws_eqLinkS.f k l l) true := by
 refine evc (fun k => laws_eqLinkS.f.eq_1 ..) (ifp rfl ?_)
 refine same l (fun i k => laws_eqLinkS.l0 k l l i) ?_ ?_
 ·exact stp (fun k => laws_eqLinkS.l0.eq_2 ..) (ifn (by omega) (sm _))
 ·intro i x hx hk
  have hi : i < l.length := (List.getElem?_eq_some_iff.1 hx).1
  refine stp (fun k => laws_eqLinkS.l0.eq_2 ..) (ifp (by omega) (ifp (by omega) (ifp (by omega) (bnd0 (a := true) (by unfold laws_eqLink.f; simp) (ifp rfl ?_)))))
  rw [up (by omega) (by omega : (i : Int) < (l.length : Int)) (by omega)]
  exact hk
theorem eqImport_self (l : List S95) (hl : l.length ≤ 140737488351232) : Ev (fun k => laws_eqImportS.f k l l) true := by
 refine evc (fun k => laws_eqImportS.f.eq_1 ..) (ifp rfl ?_)
 refine same l (fun i k => laws_eqImportS.l0 k l l i) ?_ ?_
 ·exact stp (fun k => laws_eqImportS.l0.eq_2 ..) (ifn (by omega) (sm _))
 ·intro i x hx hk
  have hi : i < l.length := (List.getElem?_eq_some_iff.1 hx).1
  refine stp (fun k => laws_eqImportS.l0.eq_2 ..) (ifp (by omega) (ifp (by omega) (ifp (by omega) (bnd0 (a := true) (by unfold laws_eqImport.f; simp) (ifp rfl ?_)))))
  rw [up (by omega) (by omega : (i : Int) < (l.length : Int)) (by omega)]
  exact hk
theorem eqFilter_self (l : List S97) (hl : l.length ≤ 140737488351232) : Ev (fun k => laws_eqFilterS.f k l l) true := by
 refine evc (fun k => laws_eqFilterS.f.eq_1 ..) (ifp rfl ?_)
 refine same l (fun i k => laws_eqFilterS.l0 k l l i) ?_ ?_
 ·exact stp (fun k => laws_eqFilterS.l0.eq_2 ..) (ifn (by omega) (sm _))
 ·intro i x hx hk
  have hi : i < l.length := (List.getElem?_eq_some_iff.1 hx).1
  refine stp (fun k => laws_eqFilterS.l0.eq_2 ..) (ifp (by omega) (ifp (by omega) (ifp (by omega) (bnd0 (a := true) (by unfold laws_eqFilter.f; simp) (ifp rfl ?_)))))
  rw [up (by omega) (by omega : (i : Int) < (l.length : Int)) (by omega)]
  exact hk
theorem eqNet_self (l0 : List ByteArray) (l1 : List S92) (l2 l3 : List Int) (l4 : List S95) (l5 : List S97) (h0 : l0.length ≤ 140737488351232) (h1 : l1.length ≤ 140737488351232) (h2 : l2.length ≤ 140737488351232) (h3 : l3.length ≤ 140737488351232) (h4 : l4.length ≤ 140737488351232) (h5 : l5.length ≤ 140737488351232) : Ev (fun k => laws_eqNet.f k l0 l1 l2 l3 l4 l5 l0 l1 l2 l3 l4 l5) true :=
 evc (fun k => laws_eqNet.f.eq_1 ..) (bnd (eqStr_self l0 h0) (bnd (eqLink_self l1 h1) (bnd (eqI_self l2 h2) (bnd (eqI_self l3 h3) (bnd (eqImport_self l4 h4) (bnd (eqFilter_self l5 h5) (ifp ⟨rfl, rfl, rfl, rfl, rfl, rfl⟩ (sm _))))))))
theorem findL {α : Type} (xs : List α) (p : α → Bool) (L : Int → Nat → Option Int) (hend : Ev (L (xs.length : Int)) (-1))
  (hstep : ∀ (i : Nat) (x : α), xs[i]? = some x → (p x = true → Ev (L (i : Int)) (i : Int)) ∧ (p x = false → ∀ r, Ev (L ((i : Int) + 1)) r → Ev (L (i : Int)) r)) : Ev (L 0) (idxB p xs 0) := by
 have key : ∀ (d i : Nat), i + d = xs.length → Ev (L (i : Int)) (idxB p (xs.drop i) i) := by
  intro d
  induction d with
  | zero =>
   intro i hd
   obtain rfl : i = xs.length := by omega
   rw [List.drop_length]
   exact hend
  | succ d ih =>
   intro i hd
   have hi : i < xs.length := by omega
   obtain ⟨h1, h2⟩ := hstep i xs[i] (List.getElem?_eq_getElem hi)
   rw [List.drop_eq_getElem_cons hi, idxB]
   cases hp : p xs[i] with
   | true => rw [if_pos rfl]; exact h1 hp
   | false =>
    rw [if_neg Bool.false_ne_true]
    have := ih (i + 1) (by omega)
    exact h2 hp _ (by rwa [show ((i + 1 : Nat) : Int) = (i : Int) + 1 by omega] at this)
 have := key xs.length 0 (by omega)
 rwa [List.drop_zero] at this
theorem link_is (l : List S92) (hl : l.length ≤ 140737488351232) (a b : Int) : Ev (fun k => spec_l06Link.f k l a b) (linkI l a b) := by
 refine evc (fun k => spec_l06Link.f.eq_1 ..) ?_
 refine findL l (joinB a b) (fun i k => spec_l06Link.l0 k l a b i) ?_ ?_
 ·exact stp (fun k => spec_l06Link.l0.eq_2 ..) (ifn (by omega) (sm _))
 ·intro i x hx
  have hi : i < l.length := (List.getElem?_eq_some_iff.1 hx).1
  have hr : rd_T92 l (i : Int) = x := getD_some hx
  have hu := up (i := (i : Int)) (by omega) (by omega : (i : Int) < (l.length : Int)) (by omega)
  constructor
  ·intro hp
   refine stp (fun k => spec_l06Link.l0.eq_2 ..) (ifp (by omega) (ifp (by omega) ?_))
   rw [hr]
   unfold joinB at hp
   by_cases h1 : x.f0 = a
   ·refine ifp h1 ?_
    by_cases h2 : x.f1 = b
    ·exact ifp h2 (sm _)
    ·refine ifn h2 ?_
     by_cases h3 : x.f0 = b
     ·refine ifp h3 ?_
      by_cases h4 : x.f1 = a
      ·exact ifp h4 (sm _)
      ·simp [h2, h4] at hp
     ·simp [h2, h3] at hp
   ·refine ifn h1 ?_
    by_cases h3 : x.f0 = b
    ·refine ifp h3 ?_
     by_cases h4 : x.f1 = a
     ·exact ifp h4 (sm _)
     ·simp [h1, h4] at hp
    ·simp [h1, h3] at hp
  ·intro hp r hk
   refine stp (fun k => spec_l06Link.l0.eq_2 ..) (ifp (by omega) (ifp (by omega) ?_))
   rw [hr, hu]
   unfold joinB at hp
   by_cases h1 : x.f0 = a
   ·refine ifp h1 ?_
    by_cases h2 : x.f1 = b
    ·simp [h1, h2] at hp
    ·refine ifn h2 ?_
     by_cases h3 : x.f0 = b
     ·refine ifp h3 ?_
      by_cases h4 : x.f1 = a
      ·simp [h3, h4] at hp
      ·exact ifn h4 hk
     ·exact ifn h3 hk
   ·refine ifn h1 ?_
    by_cases h3 : x.f0 = b
    ·refine ifp h3 ?_
     by_cases h4 : x.f1 = a
     ·simp [h3, h4] at hp
     ·exact ifn h4 hk
    ·exact ifn h3 hk
def sameS (w y : ByteArray) : Bool := decide (y.toList = w.toList)
theorem place_is (l : List ByteArray) (hl : l.length ≤ 140737488351232) (w : ByteArray) : Ev (fun k => spec_l06Place.f k l w) (idxB (sameS w) l 0) := by
 refine evc (fun k => spec_l06Place.f.eq_1 ..) ?_
 refine findL l (sameS w) (fun i k => spec_l06Place.l0 k l w i) ?_ ?_
 ·exact stp (fun k => spec_l06Place.l0.eq_2 ..) (ifn (by omega) (sm _))
 ·intro i x hx
  have hi : i < l.length := (List.getElem?_eq_some_iff.1 hx).1
  have hr : rdOf ByteArray.empty l (i : Int) = x := getD_some hx
  have hu := up (i := (i : Int)) (by omega) (by omega : (i : Int) < (l.length : Int)) (by omega)
  constructor
  ·intro hp
   refine stp (fun k => spec_l06Place.l0.eq_2 ..) (ifp (by omega) (ifp (by omega) (ifp ?_ (sm _))))
   rw [hr]; exact of_decide_eq_true hp
  ·intro hp r hk
   refine stp (fun k => spec_l06Place.l0.eq_2 ..) (ifp (by omega) (ifp (by omega) (ifn ?_ ?_)))
   ·rw [hr]; exact of_decide_eq_false hp
   ·rw [hu]; exact hk
theorem contains_is (l : List ByteArray) (hl : l.length ≤ 140737488351232) (w : ByteArray) : Ev (fun k => slices_Contains_string_string.f k l w) (decide (idxB (sameS w) l 0 ≥ 0)) := by
 refine evc (fun k => slices_Contains_string_string.f.eq_1 ..) (bnd ?_ (sm _))
 refine evc (fun k => slices_Index_string_string.f.eq_1 ..) ?_
 refine findL l (sameS w) (fun i k => slices_Index_string_string.l0 k l w (l.length : Int) i) ?_ ?_
 ·exact stp (fun k => slices_Index_string_string.l0.eq_2 ..) (ifn (by omega) (sm _))
 ·intro i x hx
  have hi : i < l.length := (List.getElem?_eq_some_iff.1 hx).1
  have hr : rdOf ByteArray.empty l (i : Int) = x := getD_some hx
  have hu := up (i := (i : Int)) (by omega) (by omega : (i : Int) < (l.length : Int)) (by omega)
  constructor
  ·intro hp
   refine stp (fun k => slices_Index_string_string.l0.eq_2 ..) (ifp (by omega) (ifp (by omega) (ifp (by omega) (ifp ?_ (sm _)))))
   rw [hr]; exact (of_decide_eq_true hp).symm
  ·intro hp r hk
   refine stp (fun k => slices_Index_string_string.l0.eq_2 ..) (ifp (by omega) (ifp (by omega) (ifp (by omega) (ifn ?_ ?_))))
   ·rw [hr]; exact fun q => of_decide_eq_false hp q.symm
   ·rw [hu]; exact hk
theorem wrap_up {i : Int} {n : Nat} (h0 : 0 ≤ i) (h : i < (n : Int)) (hn : n ≤ 140737488351232) : wrap64 (i + 1) = i + 1 := by
 unfold wrap64
 omega
def lt (c : Int) : Bool := (decide (97 ≤ c) && decide (c ≤ 122)) || (decide (65 ≤ c) && decide (c ≤ 90)) || (c == 95)
def dg (c : Int) : Bool := decide (48 ≤ c) && decide (c ≤ 57)
theorem letter_is (c : Int) : spec_l00Letter.f c = some (lt c) := by
 unfold spec_l00Letter.f lt
 by_cases h1 : 97 ≤ c <;> by_cases h2 : c ≤ 122 <;> by_cases h3 : 65 ≤ c <;> by_cases h4 : c ≤ 90 <;> simp [h1, h2, h3, h4]
theorem digit_is (c : Int) : spec_l00Digit.f c = some (dg c) := by
 unfold spec_l00Digit.f dg
 by_cases h1 : 48 ≤ c <;> simp [h1]
def allOK (s : ByteArray) : Nat → Int → Bool
 | 0, _ => true
 | d + 1, i => (lt (bt s i) || (decide (i ≠ 0) && dg (bt s i))) && allOK s d (i + 1)
theorem impl_step (k : Nat) (s : ByteArray) (i : Int) (h0 : 0 ≤ i) (h1 : i < (s.size : Int)) :
  impl_NameOK.l0 (k + 1) s (s.size : Int) i = if (lt (bt s i) || (decide (i ≠ 0) && dg (bt s i))) = true then impl_NameOK.l0 k s (s.size : Int) (wrap64 (i + 1)) else some false := by
 simp only [impl_NameOK.l0]
 rw [if_pos h1, if_pos h0, if_pos h1]
 generalize bt s i = c
 unfold lt dg
 by_cases g1 : 97 ≤ c <;> by_cases g2 : c ≤ 122 <;> by_cases g3 : 65 ≤ c <;> by_cases g4 : c ≤ 90 <;> by_cases g5 : c = 95 <;> by_cases g6 : i = 0 <;> by_cases g7 : 48 ≤ c <;> by_cases g8 : c ≤ 57 <;> simp [g1, g2, g3, g4, g5, g6, g7, g8]
theorem impl_loop (s : ByteArray) (hn : s.size ≤ 140737488351232) (d : Nat) : ∀ (k : Nat) (i : Int), 0 ≤ i → (s.size : Int) - i = d → d < k →
  impl_NameOK.l0 k s (s.size : Int) i = some (allOK s d i && decide (1 ≤ s.size) && decide (s.size ≤ 40)) := by
 induction d with
 | zero =>
  intro k i h0 hd hk
  obtain ⟨k, rfl⟩ : ∃ m, k = m + 1 := ⟨k - 1, by omega⟩
  simp only [impl_NameOK.l0]
  rw [if_neg (by omega)]
  simp only [impl_within.f, allOK, Bool.true_and]
  by_cases g1 : 1 ≤ s.size
  ·rw [if_pos (by omega)]; simp only [Option.bind_some, decide_eq_true g1, Bool.true_and]
   by_cases g2 : s.size ≤ 40
   ·rw [decide_eq_true g2, decide_eq_true (by omega)]
   ·rw [decide_eq_false g2, decide_eq_false (by omega)]
  ·rw [if_neg (by omega)]; simp only [Option.bind_some, decide_eq_false g1, Bool.false_and]
 | succ d ih =>
  intro k i h0 hd hk
  obtain ⟨k, rfl⟩ : ∃ m, k = m + 1 := ⟨k - 1, by omega⟩
  rw [impl_step k s i h0 (by omega)]
  simp only [allOK]
  cases h : (lt (bt s i) || (decide (i ≠ 0) && dg (bt s i))) with
  | true => rw [if_pos rfl, wrap_up h0 (by omega) hn, ih k (i + 1) (by omega) (by omega) (by omega)]; simp
  | false => simp
theorem spec_loop (s : ByteArray) (hn : s.size ≤ 140737488351232) (d : Nat) : ∀ (k : Nat) (i : Int), 1 ≤ i → (s.size : Int) - i = d → d < k →
  spec_l00Word.l0 k s i = some (allOK s d i) := by
 induction d with
 | zero =>
  intro k i h0 hd hk
  obtain ⟨k, rfl⟩ : ∃ m, k = m + 1 := ⟨k - 1, by omega⟩
  simp only [spec_l00Word.l0]
  rw [if_neg (by omega)]
  simp only [allOK]
 | succ d ih =>
  intro k i h0 hd hk
  obtain ⟨k, rfl⟩ : ∃ m, k = m + 1 := ⟨k - 1, by omega⟩
  simp only [spec_l00Word.l0, letter_is, digit_is, Option.bind_some, allOK]
  rw [if_pos (by omega), if_pos (by omega), wrap_up (by omega) (by omega) hn, ih k (i + 1) (by omega) (by omega) (by omega), decide_eq_true (by omega : i ≠ 0)]
  cases lt (bt s i) <;> cases dg (bt s i) <;> simp
theorem spec_is (s : ByteArray) (hn : s.size ≤ 140737488351232) (k : Nat) (hk : s.size + 2 < k) :
  spec_NameOK.f k s = some (allOK s s.size 0 && decide (1 ≤ s.size) && decide (s.size ≤ 40)) := by
 obtain ⟨k, rfl⟩ : ∃ m, k = m + 1 := ⟨k - 1, by omega⟩
 unfold spec_NameOK.f spec_l00Word.f
 by_cases g1 : 1 ≤ s.size
 ·rw [if_neg (by omega)]
  by_cases g2 : s.size ≤ 40
  ·rw [if_neg (by omega), if_pos (by omega), letter_is]
   simp only [Option.bind_some, spec_l00Word.j0, decide_eq_true g1, decide_eq_true g2, Bool.and_true]
   rw [spec_loop s hn (s.size - 1) k 1 (by omega) (by omega) (by omega)]
   obtain ⟨m, hm⟩ : ∃ m, s.size = m + 1 := ⟨s.size - 1, by omega⟩
   rw [hm]
   simp only [allOK, Nat.add_sub_cancel]
   cases lt (bt s 0) <;> simp
  ·rw [if_pos (by omega)]
   simp only [Option.bind_some, spec_l00Word.j0, decide_eq_false g2, Bool.and_false]
   rfl
 ·rw [if_pos (by omega)]
  simp only [Option.bind_some, spec_l00Word.j0, decide_eq_false g1, Bool.and_false, Bool.false_and]
  rfl
def nameB (s : ByteArray) : Bool := allOK s s.size 0 && decide (1 ≤ s.size) && decide (s.size ≤ 40)
theorem sname_is (s : ByteArray) (hn : s.size ≤ 140737488351232) : Ev (fun k => spec_NameOK.f k s) (nameB s) := ⟨s.size + 3, fun k hk => spec_is s hn k (by omega)⟩
theorem iname_is (s : ByteArray) (hn : s.size ≤ 140737488351232) : Ev (fun k => impl_NameOK.f k s) (nameB s) := ⟨s.size + 3, fun k hk => by unfold impl_NameOK.f; exact impl_loop s hn s.size k 0 (by omega) (by omega) (by omega)⟩
def nmB (all : List ByteArray) : List ByteArray → Nat → Bool
 | [], _ => true
 | y :: r, i => nameB y && (!(decide (idxB (sameS y) (all.take i) 0 ≥ 0)) && nmB all r (i + 1))
theorem snames_is (all : List ByteArray) (ha : all.length ≤ 140737488351232) : ∀ (l : List ByteArray) (i : Nat), (∀ x ∈ l, x.size ≤ 140737488351232) → Ev (fun k => snamesO k all l i) (nmB all l i)
 | [], i, _ => evc (fun k => snamesO.eq_1 ..) (sm _)
 | y :: r, i, h => by
  refine evc (fun k => snamesO.eq_2 ..) (bnd (sname_is y (h y List.mem_cons_self)) ?_)
  rw [nmB]
  cases nameB y with
  | false => exact ifp rfl (sm _)
  | true =>
   refine ifn (by decide) (bnd (place_is (all.take i) (by rw [List.length_take]; omega) y) ?_)
   cases hq : decide (idxB (sameS y) (all.take i) 0 ≥ 0) with
   | true => exact ifp rfl (sm _)
   | false =>
    rw [Bool.not_false, Bool.true_and, Bool.true_and]
    exact ifn Bool.false_ne_true (snames_is all ha r (i + 1) (fun x hx => h x (List.mem_cons_of_mem _ hx)))
theorem inames_is (all : List ByteArray) (ha : all.length ≤ 140737488351232) : ∀ (l : List ByteArray) (i : Nat), (∀ x ∈ l, x.size ≤ 140737488351232) → Ev (fun k => namesO k all l i) (nmB all l i)
 | [], i, _ => evc (fun k => namesO.eq_1 ..) (sm _)
 | y :: r, i, h => by
  refine evc (fun k => namesO.eq_2 ..) (bnd (iname_is y (h y List.mem_cons_self)) ?_)
  rw [nmB]
  cases nameB y with
  | false => exact ifn Bool.false_ne_true (sm _)
  | true =>
   refine ifp rfl (bnd (contains_is (all.take i) (by rw [List.length_take]; omega) y) ?_)
   cases hq : decide (idxB (sameS y) (all.take i) 0 ≥ 0) with
   | true => exact ifp rfl (sm _)
   | false =>
    rw [Bool.not_false, Bool.true_and, Bool.true_and]
    exact ifn Bool.false_ne_true (inames_is all ha r (i + 1) (fun x hx => h x (List.mem_cons_of_mem _ hx)))
def risB (n : Nat) (l : List Int) : Nat → Nat → Bool
 | 0, _ => true
 | d + 1, i => (inB (l.getD i 0) 0 ((n : Int) - 1) && !(decide (i > 0) && decide (l.getD (i - 1) 0 ≥ l.getD i 0))) && risB n l d (i + 1)
theorem lin_is (a lo hi : Int) : spec_l01In.f a lo hi = some (inB a lo hi) := sin_is a lo hi
theorem rising_is (n : Nat) (hn : 1 ≤ n) (hn4 : n ≤ 4) (l : List Int) (hl : l.length ≤ 140737488351232) : Ev (fun k => spec_l06Rising.f k l (n : Int)) (risB n l l.length 0) := by
 refine evc (fun k => spec_l06Rising.f.eq_1 ..) ?_
 have key : ∀ (d i : Nat), i + d = l.length → Ev (fun k => spec_l06Rising.l0 k l (n : Int) (i : Int)) (risB n l d i) := by
  intro d
  induction d with
  | zero => intro i hd; exact stp (fun k => spec_l06Rising.l0.eq_2 ..) (ifn (by omega) (sm _))
  | succ d ih =>
   intro i hd
   have hr : rd l (i : Int) = l.getD i 0 := by unfold rd; rw [Int.toNat_natCast]
   have hnx := ih (i + 1) (by omega)
   rw [show ((i + 1 : Nat) : Int) = (i : Int) + 1 by omega] at hnx
   refine stp (fun k => spec_l06Rising.l0.eq_2 ..) (ifp (by omega) (ifp (by omega) ?_))
   rw [hr, w64 (x := (n : Int) - 1) (by omega) (by omega), up (i := (i : Int)) (by omega) (by omega : (i : Int) < (l.length : Int)) (by omega), risB]
   refine bnd0 (lin_is _ _ _) ?_
   cases inB (l.getD i 0) 0 ((n : Int) - 1) with
   | false => exact ifn Bool.false_ne_true (sm _)
   | true =>
    refine ifp rfl ?_
    rw [Bool.true_and]
    by_cases h0 : i > 0
    ·have hr1 : rd l (wrap64 ((i : Int) - 1)) = l.getD (i - 1) 0 := by rw [w64 (by omega) (by omega)]; unfold rd; rw [show ((i : Int) - 1).toNat = i - 1 by omega]
     refine ifp (by omega) (ifp (by rw [w64 (by omega) (by omega)]; omega) (ifp (by rw [w64 (by omega) (by omega)]; omega) ?_))
     rw [hr1, decide_eq_true h0, Bool.true_and]
     by_cases h1 : l.getD (i - 1) 0 ≥ l.getD i 0
     ·rw [decide_eq_true h1]; exact ifp h1 (sm _)
     ·rw [decide_eq_false h1]; exact ifn h1 hnx
    ·rw [decide_eq_false h0]; exact ifn (by omega) hnx
 have := key l.length 0 (by omega)
 exact this
theorem routers_is (l0 : List ByteArray) (l1 : List S92) (l2 l3 : List Int) (l4 : List S95) (l5 : List S97) (hn : 1 ≤ l0.length) (hn4 : l0.length ≤ 4) (l : List Int) (hl : l.length ≤ 140737488351232) : Ev (fun k => impl_areRouters.f k l0 l1 l2 l3 l4 l5 l) (risB l0.length l l.length 0) := by
 refine evc (fun k => impl_areRouters.f.eq_1 ..) ?_
 have key : ∀ (d i : Nat), i + d = l.length → Ev (fun k => impl_areRouters.l0 k l l (l.length : Int) (i : Int) l0 l1 l2 l3 l4 l5) (risB l0.length l d i) := by
  intro d
  induction d with
  | zero => intro i hd; exact stp (fun k => impl_areRouters.l0.eq_2 ..) (ifn (by omega) (sm _))
  | succ d ih =>
   intro i hd
   have hr : rd l (i : Int) = l.getD i 0 := by unfold rd; rw [Int.toNat_natCast]
   have hnx := ih (i + 1) (by omega)
   rw [show ((i + 1 : Nat) : Int) = (i : Int) + 1 by omega] at hnx
   refine stp (fun k => impl_areRouters.l0.eq_2 ..) (ifp (by omega) (ifp (by omega) (ifp (by omega) ?_)))
   rw [hr, up (i := (i : Int)) (by omega) (by omega : (i : Int) < (l.length : Int)) (by omega), risB]
   refine bnd0 (a := inB (l.getD i 0) 0 ((l0.length : Int) - 1)) ?_ ?_
   ·unfold impl_isRouter.f
    rw [w64 (x := (l0.length : Int) - 1) (by omega) (by omega), within_is]
    rfl
   cases inB (l.getD i 0) 0 ((l0.length : Int) - 1) with
   | false => exact ifn Bool.false_ne_true (sm _)
   | true =>
    refine ifp rfl ?_
    rw [Bool.true_and]
    by_cases h0 : i > 0
    ·have hr1 : rd l (wrap64 ((i : Int) - 1)) = l.getD (i - 1) 0 := by rw [w64 (by omega) (by omega)]; unfold rd; rw [show ((i : Int) - 1).toNat = i - 1 by omega]
     refine ifp (by omega) (ifp (by rw [w64 (by omega) (by omega)]; omega) (ifp (by rw [w64 (by omega) (by omega)]; omega) ?_))
     rw [hr1, decide_eq_true h0, Bool.true_and]
     by_cases h1 : l.getD (i - 1) 0 ≥ l.getD i 0
     ·rw [decide_eq_true h1]; exact ifp h1 (sm _)
     ·rw [decide_eq_false h1]; exact ifn h1 hnx
    ·rw [decide_eq_false h0]; exact ifn (by omega) hnx
 exact key l.length 0 (by omega)
theorem idxB_nonneg {α : Type} (p : α → Bool) : ∀ (l : List α) (i : Nat), (l.any p = true → (i : Int) ≤ idxB p l i ∧ idxB p l i < i + l.length) ∧ (l.any p = false → idxB p l i = -1)
 | [], i => ⟨fun h => by simp at h, fun _ => rfl⟩
 | x :: r, i => by
  obtain ⟨h1, h2⟩ := idxB_nonneg p r (i + 1)
  rw [List.any_cons, idxB]
  cases hp : p x with
  | true => exact ⟨fun _ => by rw [if_pos rfl, List.length_cons]; omega, fun h => by cases h⟩
  | false =>
   rw [Bool.false_or, if_neg Bool.false_ne_true, List.length_cons]
   exact ⟨fun h => by have := h1 h; omega, h2⟩
theorem idxB_ge {α : Type} (p : α → Bool) (l : List α) : decide (idxB p l 0 ≥ 0) = l.any p := by
 obtain ⟨h1, h2⟩ := idxB_nonneg p l 0
 cases h : l.any p with
 | true => exact decide_eq_true (by have := h1 h; omega)
 | false => exact decide_eq_false (by rw [h2 h]; omega)
theorem idxB_app {α : Type} (p : α → Bool) (x : α) (r : List α) (hx : p x = true) : ∀ (l : List α) (i : Nat), decide (idxB p (l ++ x :: r) i < ((i + l.length : Nat) : Int)) = l.any p
 | [], i => by
  rw [List.nil_append, idxB, if_pos hx]
  exact decide_eq_false (by simp)
 | y :: l, i => by
  have ih := idxB_app p x r hx l (i + 1)
  rw [List.cons_append, idxB, List.any_cons]
  cases hp : p y with
  | true => rw [if_pos rfl, Bool.true_or, List.length_cons]; exact decide_eq_true (by omega)
  | false =>
   rw [if_neg Bool.false_ne_true, Bool.false_or, ← ih, List.length_cons, show i + (l.length + 1) = i + 1 + l.length by omega]
theorem slinks_is (n : Nat) (all : List S92) (ha : all.length ≤ 140737488351232) : ∀ (l : List S92) (pre : List S92), all = pre ++ l → Ev (fun k => slinksO k n all l pre.length) (linksB n all l pre.length)
 | [], pre, _ => evc (fun k => slinksO.eq_1 ..) (sm _)
 | x :: r, pre, h => by
  refine evc (fun k => slinksO.eq_2 ..) ?_
  have hj : joinB x.f0 x.f1 x = true := by unfold joinB; simp
  have hlt := idxB_app (joinB x.f0 x.f1) x r hj pre 0
  rw [Nat.zero_add, ← h] at hlt
  have htk : all.take pre.length = pre := by rw [h]; simp
  have hge := idxB_ge (joinB x.f0 x.f1) pre
  have hnx := slinks_is n all ha r (pre ++ [x]) (by rw [h]; simp)
  rw [List.length_append, List.length_singleton] at hnx
  rw [linksB]
  unfold linkB linkI
  rw [hlt]
  unfold routerB inB
  cases decide (0 ≤ x.f0) && decide (x.f0 ≤ (n : Int) - 1) with
  | false => exact ifp rfl (sm _)
  | true =>
   cases decide (0 ≤ x.f1) && decide (x.f1 ≤ (n : Int) - 1) with
   | false => exact ifp rfl (sm _)
   | true =>
    cases x.f0 == x.f1 with
    | true => exact ifp rfl (sm _)
    | false =>
     cases decide (1 ≤ x.f2) && decide (x.f2 ≤ 100) with
     | false => 
      rw [show ((true && (true && (!false && (!(pre.any (joinB x.f0 x.f1)) && false)))) && linksB n all r (pre.length + 1)) = false from by simp]
      exact ifp rfl (sm _)
     | true =>
      refine ifn (by decide) (bnd (link_is (all.take pre.length) (by rw [List.length_take]; omega) x.f0 x.f1) ?_)
      rw [htk]
      unfold linkI
      rw [hge]
      cases pre.any (joinB x.f0 x.f1) with
      | true => exact ifp rfl (sm _)
      | false => exact ifn Bool.false_ne_true hnx
theorem simps_is (all : List S92) (ha : all.length ≤ 140737488351232) : ∀ (l : List S95), Ev (fun k => simpsO k all l) (!(l.any (impBad all)))
 | [] => evc (fun k => simpsO.eq_1 ..) (sm _)
 | x :: r => by
  have hnx := simps_is all ha r
  refine evc (fun k => simpsO.eq_2 ..) (bnd (link_is all ha x.f0 x.f1) ?_)
  have hz : (((((decide (linkI all x.f0 x.f1 < 0)) || (!(inB x.f2 0 2))) || (!(inB x.f3 1 4))) || ((x.f3 == 2) && (!(inB x.f4 0 1000)))) || ((x.f3 != 2) && (x.f4 != 0))) = impBad all x := by
   unfold impBad importB
   by_cases h2 : x.f3 = 2
   ·have e1 : (x.f3 == 2) = true := by simpa using h2
    have e2 : (x.f3 != 2) = false := by rw [bne, e1]; rfl
    rw [e1, e2, if_pos h2]
    cases decide (linkI all x.f0 x.f1 < 0) <;> cases inB x.f2 0 2 <;> cases inB x.f3 1 4 <;> cases inB x.f4 0 1000 <;> rfl
   ·have e1 : (x.f3 == 2) = false := by simpa using h2
    have e2 : (x.f3 != 2) = true := by rw [bne, e1]; rfl
    rw [e1, e2, if_neg h2]
    have e3 : (x.f4 != 0) = !(inB x.f4 0 0) := by
     unfold inB
     rw [Bool.eq_iff_iff]
     simp
     omega
    rw [e3]
    cases decide (linkI all x.f0 x.f1 < 0) <;> cases inB x.f2 0 2 <;> cases inB x.f3 1 4 <;> cases inB x.f4 0 0 <;> rfl
  rw [hz, List.any_cons]
  cases impBad all x with
  | true => exact ifp rfl (sm _)
  | false => exact ifn Bool.false_ne_true hnx
theorem sfilts_is (all : List S92) (ha : all.length ≤ 140737488351232) : ∀ (l : List S97), Ev (fun k => sfiltsO k all l) (!(l.any (filtBad all)))
 | [] => evc (fun k => sfiltsO.eq_1 ..) (sm _)
 | x :: r => by
  have hnx := sfilts_is all ha r
  refine evc (fun k => sfiltsO.eq_2 ..) (bnd (link_is all ha x.f0 x.f1) ?_)
  have hz : (((decide (linkI all x.f0 x.f1 < 0)) || (!(inB x.f2 0 15))) || (!(inB x.f3 x.f2 15))) = filtBad all x := by
   unfold filtBad
   have e : (!inB x.f2 0 x.f3 || decide (x.f3 > 15)) = (!(inB x.f2 0 15) || !(inB x.f3 x.f2 15)) := by
    unfold inB
    rw [Bool.eq_iff_iff]
    simp
    omega
   rw [e, Bool.or_assoc]
  rw [hz, List.any_cons]
  cases filtBad all x with
  | true => exact ifp rfl (sm _)
  | false => exact ifn Bool.false_ne_true hnx
def netB (l0 : List ByteArray) (l1 : List S92) (l2 l3 : List Int) (l4 : List S95) (l5 : List S97) : Bool :=
 (inB l0.length 1 4 && (decide (l1.length ≤ 6) && (decide (l4.length ≤ 12) && decide (l5.length ≤ 6)))) && (risB l0.length l2 l2.length 0 && (risB l0.length l3 l3.length 0 && (decide (l3.length ≤ 2) && (nmB l0 l0 0 && (linksB l0.length l1 l1 0 && (!(l4.any (impBad l1)) && !(l5.any (filtBad l1))))))))
section
variable (l0 : List ByteArray) (l1 : List S92) (l2 l3 : List Int) (l4 : List S95) (l5 : List S97) (hs : ∀ x ∈ l0, x.size ≤ 140737488351232) (h2 : l2.length ≤ 140737488351232) (h3 : l3.length ≤ 140737488351232)
theorem netB_no (h : ¬ (inB l0.length 1 4 = true ∧ l1.length ≤ 6 ∧ l4.length ≤ 12 ∧ l5.length ≤ 6)) : netB l0 l1 l2 l3 l4 l5 = false := by
 unfold netB
 rw [Bool.and_eq_false_iff]
 left
 rw [Bool.eq_false_iff]
 intro q
 simp only [Bool.and_eq_true, decide_eq_true_eq] at q
 exact h ⟨q.1, q.2.1, q.2.2.1, q.2.2.2⟩
theorem netB_yes (h : inB l0.length 1 4 = true ∧ l1.length ≤ 6 ∧ l4.length ≤ 12 ∧ l5.length ≤ 6) : netB l0 l1 l2 l3 l4 l5 = (risB l0.length l2 l2.length 0 && (risB l0.length l3 l3.length 0 && (decide (l3.length ≤ 2) && (nmB l0 l0 0 && (linksB l0.length l1 l1 0 && (!(l4.any (impBad l1)) && !(l5.any (filtBad l1)))))))) := by
 unfold netB
 rw [h.1, decide_eq_true h.2.1, decide_eq_true h.2.2.1, decide_eq_true h.2.2.2]
 rfl
include hs h2 h3
theorem specNet_is : Ev (fun k => spec_NetOK.f k l0 l1 l2 l3 l4 l5) (netB l0 l1 l2 l3 l4 l5) := by
 refine evc (fun k => spec_NetOK.f.eq_1 ..) ?_
 by_cases hg : inB l0.length 1 4 = true ∧ l1.length ≤ 6 ∧ l4.length ≤ 12 ∧ l5.length ≤ 6
 ·have hn : 1 ≤ l0.length ∧ l0.length ≤ 4 := by have := hg.1; unfold inB at this; simp at this; omega
  rw [netB_yes l0 l1 l2 l3 l4 l5 hg]
  rw [hg.1, decide_eq_false (show ¬ (l1.length : Int) > 6 by omega), decide_eq_false (show ¬ (l4.length : Int) > 12 by omega), decide_eq_false (show ¬ (l5.length : Int) > 6 by omega)]
  refine ifn (by decide) (bnd (rising_is _ hn.1 hn.2 l2 h2) ?_)
  cases risB l0.length l2 l2.length 0 with
  | false => exact ifp rfl (sm _)
  | true =>
   refine ifn (by decide) (bnd (rising_is _ hn.1 hn.2 l3 h3) ?_)
   cases risB l0.length l3 l3.length 0 with
   | false => exact ifp rfl (sm _)
   | true =>
    by_cases h9 : l3.length ≤ 2
    ·rw [decide_eq_false (show ¬ (l3.length : Int) > 2 by omega)]
     refine ifn (by decide) (bnd (snames_is l0 (by omega) l0 0 hs) ?_)
     rw [decide_eq_true h9]
     cases nmB l0 l0 0 with
     | false => exact ifp rfl (sm _)
     | true =>
      refine ifn (by decide) (bnd (slinks_is l0.length l1 (by omega) l1 [] rfl) ?_)
      rw [List.length_nil]
      cases linksB l0.length l1 l1 0 with
      | false => exact ifp rfl (sm _)
      | true =>
       refine ifn (by decide) (bnd (simps_is l1 (by omega) l4) ?_)
       cases l4.any (impBad l1) with
       | true => exact ifp rfl (sm _)
       | false => exact ifn (by decide) (sfilts_is l1 (by omega) l5)
    ·rw [decide_eq_false h9, decide_eq_true (show (l3.length : Int) > 2 by omega)]
     exact ifp rfl (sm _)
 ·rw [netB_no l0 l1 l2 l3 l4 l5 hg]
  refine ifp ?_ (sm _)
  by_cases i1 : inB l0.length 1 4 = true
  ·by_cases i2 : l1.length ≤ 6
   ·by_cases i3 : l4.length ≤ 12
    ·have i4 : ¬ l5.length ≤ 6 := fun q => hg ⟨i1, i2, i3, q⟩
     rw [decide_eq_true (show (l5.length : Int) > 6 by omega), Bool.or_true]
    ·rw [decide_eq_true (show (l4.length : Int) > 12 by omega), Bool.or_true, Bool.true_or]
   ·rw [decide_eq_true (show (l1.length : Int) > 6 by omega), Bool.or_true, Bool.true_or, Bool.true_or]
  ·rw [Bool.eq_false_iff.2 i1]
   rfl
theorem implNet_is : Ev (fun k => impl_isNet.f k l0 l1 l2 l3 l4 l5) (netB l0 l1 l2 l3 l4 l5) := by
 refine evc (fun k => impl_isNet.f.eq_1 ..) ?_
 by_cases hg : inB l0.length 1 4 = true ∧ l1.length ≤ 6 ∧ l4.length ≤ 12 ∧ l5.length ≤ 6
 ·have hn : 1 ≤ l0.length ∧ l0.length ≤ 4 := by have := hg.1; unfold inB at this; simp at this; omega
  rw [netB_yes l0 l1 l2 l3 l4 l5 hg]
  have hra := routers_is l0 l1 l2 l3 l4 l5 hn.1 hn.2 l2 h2
  have hrb := routers_is l0 l1 l2 l3 l4 l5 hn.1 hn.2 l3 h3
  refine ifp hg (bnd (inames_is l0 (by omega) l0 0 hs) ?_)
  cases nmB l0 l0 0 with
  | false => simp only [Bool.false_and, Bool.and_false]; exact ifn Bool.false_ne_true (sm _)
  | true =>
   refine ifp rfl ?_
   cases linksB l0.length l1 l1 0 with
   | false => simp only [Bool.false_and, Bool.and_false]; exact ifn Bool.false_ne_true (sm _)
   | true =>
    refine ifp rfl ?_
    cases l4.any (impBad l1) with
    | true => simp only [Bool.not_true, Bool.false_and, Bool.and_false]; exact ifp trivial (sm _)
    | false =>
     refine ifn Bool.false_ne_true ?_
     cases l5.any (filtBad l1) with
     | true => simp only [Bool.not_true, Bool.false_and, Bool.and_false]; exact ifp trivial (sm _)
     | false =>
      refine ifn Bool.false_ne_true (bnd hra ?_)
      cases risB l0.length l2 l2.length 0 with
      | false => exact ifn Bool.false_ne_true (sm _)
      | true =>
       refine ifp rfl (bnd hrb ?_)
       simp only [Bool.not_false, Bool.true_and, Bool.and_true]
       exact sm _
 ·rw [netB_no l0 l1 l2 l3 l4 l5 hg]
  exact ifn hg (sm _)
end
theorem markL {α : Type} (c : Nat) (L : List α → Int → Int → Nat → Option (Int × List α)) (hend : ∀ x k, Ev (L x k (x.length : Int)) (k, x))
  (hstep : ∀ (x : List α) (k : Int) (i : Nat), i < x.length → x.length ≤ 140737488351232 → 0 ≤ k → k ≤ 1000000000000000000 → ∃ y : List α, y.length = x.length ∧ ∀ r, Ev (L y (k + (c : Int)) ((i : Int) + 1)) r → Ev (L x k (i : Int)) r) (l : List α) (a : Int) (hl : l.length ≤ 140737488351232) (h0 : 0 ≤ a) (h1 : a + ((c * l.length : Nat) : Int) ≤ 1000000000000000000) : ∃ m, Ev (L l a 0) (a + ((c * l.length : Nat) : Int), m) := by
 have key : ∀ (d i : Nat) (x : List α) (k : Int), i + d = x.length → x.length ≤ 140737488351232 → 0 ≤ k → k + ((c * d : Nat) : Int) ≤ 1000000000000000000 → ∃ m, Ev (L x k (i : Int)) (k + ((c * d : Nat) : Int), m) := by
  intro d
  induction d with
  | zero =>
   intro i x k hi hx h0 h1
   obtain rfl : i = x.length := by omega
   exact ⟨x, by simpa using hend x k⟩
  | succ d ih =>
   intro i x k hi hx h0 h1
   have e : c * (d + 1) = c * d + c := Nat.mul_succ c d
   rw [e] at h1 ⊢
   have hc0 : (0 : Int) ≤ ((c * d : Nat) : Int) := Int.natCast_nonneg _
   have hc1 : (0 : Int) ≤ (c : Int) := Int.natCast_nonneg _
   obtain ⟨y, hy, hs⟩ := hstep x k i (by omega) hx h0 (by omega)
   obtain ⟨m, hm⟩ := ih (i + 1) y (k + (c : Int)) (by omega) (by omega) (by omega) (by omega)
   refine ⟨m, hs _ ?_⟩
   rw [show ((i + 1 : Nat) : Int) = (i : Int) + 1 by omega] at hm
   rw [show k + ((c * d + c : Nat) : Int) = k + (c : Int) + ((c * d : Nat) : Int) by omega]
   exact hm
 obtain ⟨m, hm⟩ := key l.length 0 l a (by omega) hl h0 h1
 exact ⟨m, hm⟩
theorem markText_is (a : Int) (h0 : 0 ≤ a) (h1 : a ≤ 1000000000000000000) : ∃ s, Ev (fun k => laws_markText.f k a) s := by
 have key : ∀ (n : Nat) (x : Int) (s : ByteArray), x.toNat ≤ n → 0 ≤ x → x ≤ 1000000000000000000 → s.size + x.toNat ≤ 2000000000000000000 → ∃ r, Ev (fun k => laws_markText.l0 k x s) r := by
  intro n
  induction n with
  | zero =>
   intro x s hn hx hx1 hs
   exact ⟨_, stp (fun k => laws_markText.l0.eq_2 ..) (ifn (by omega) (ifp (by omega) (sm _)))⟩
  | succ n ih =>
   intro x s hn hx hx1 hs
   by_cases hp : x > 0
   ·have ed : Int.tdiv x 10 = x / 10 := Int.tdiv_eq_ediv_of_nonneg hx
    have ew : wrap64 (Int.tdiv x 10) = x / 10 := by rw [ed]; exact w64 (by omega) (by omega)
    have hsz : (strOfNums [wrap64 (48 + (Int.tmod x 10)) % 256]).size = 1 := rfl
    obtain ⟨r, hr⟩ := ih (x / 10) (strOfNums [wrap64 (48 + (Int.tmod x 10)) % 256] ++ s) (by omega) (by omega) (by omega) (by rw [ByteArray.size_append, hsz]; omega)
    refine ⟨r, stp (fun k => laws_markText.l0.eq_2 ..) (ifp hp (bnd0 rfl (ifp (by rw [hsz]; omega) ?_)))⟩
    rw [ew]
    exact hr
   ·exact ⟨_, stp (fun k => laws_markText.l0.eq_2 ..) (ifn hp (ifp (by omega) (sm _)))⟩
 by_cases hz : a ≤ 0
 ·exact ⟨_, evc (fun k => laws_markText.f.eq_1 ..) (ifp hz (sm _))⟩
 ·obtain ⟨r, hr⟩ := key a.toNat a ⟨#[]⟩ (Nat.le_refl _) h0 h1 (by show 0 + _ ≤ _; omega)
  exact ⟨r, evc (fun k => laws_markText.f.eq_1 ..) (ifn hz hr)⟩
theorem markStr_is (l : List ByteArray) (a : Int) (hl : l.length ≤ 140737488351232) (h0 : 0 ≤ a) (h1 : a + ((1 * l.length : Nat) : Int) ≤ 1000000000000000000) : ∃ m, Ev (fun k => laws_markStringS.f k l a) (a + ((1 * l.length : Nat) : Int), m) := by
 obtain ⟨m, hm⟩ := markL 1 (fun x a i k => laws_markStringS.l0 k x a i) (fun x k => stp (fun k => laws_markStringS.l0.eq_2 ..) (ifn (by omega) (sm _))) (fun x k i hi hx hk hk1 => by
  obtain ⟨s, hs⟩ := markText_is k hk hk1
  refine ⟨x.set i s, by simp, fun r hr => stp (fun k => laws_markStringS.l0.eq_2 ..) (ifp (by omega) (bnd hs (ifp (by omega) ?_)))⟩
  rw [up (by omega) (by omega : (i : Int) < (x.length : Int)) (by omega), w64 (x := k + 1) (by omega) (by omega), Int.toNat_natCast]
  exact hr) l a hl h0 h1
 exact ⟨m, evc (fun k => laws_markStringS.f.eq_1 ..) hm⟩
theorem markInts_is (l : List Int) (a : Int) (hl : l.length ≤ 140737488351232) (h0 : 0 ≤ a) (h1 : a + ((1 * l.length : Nat) : Int) ≤ 1000000000000000000) : ∃ m, Ev (fun k => laws_markIntS.f k l a) (a + ((1 * l.length : Nat) : Int), m) := by
 obtain ⟨m, hm⟩ := markL 1 (fun x a i k => laws_markIntS.l0 k x a i) (fun x k => stp (fun k => laws_markIntS.l0.eq_2 ..) (ifn (by omega) (sm _))) (fun x k i hi hx hk hk1 => by
  refine ⟨x.set i k, by simp, fun r hr => stp (fun k => laws_markIntS.l0.eq_2 ..) (ifp (by omega) (ifp (by omega) ?_))⟩
  rw [up (by omega) (by omega : (i : Int) < (x.length : Int)) (by omega), w64 (x := k + 1) (by omega) (by omega), Int.toNat_natCast]
  exact hr) l a hl h0 h1
 exact ⟨m, evc (fun k => laws_markIntS.f.eq_1 ..) hm⟩
theorem markBools_is (l : List Bool) (a : Int) (hl : l.length ≤ 140737488351232) (h0 : 0 ≤ a) (h1 : a + ((1 * l.length : Nat) : Int) ≤ 1000000000000000000) : ∃ m, Ev (fun k => laws_markBoolS.f k l a) (a + ((1 * l.length : Nat) : Int), m) := by
 obtain ⟨m, hm⟩ := markL 1 (fun x a i k => laws_markBoolS.l0 k x a i) (fun x k => stp (fun k => laws_markBoolS.l0.eq_2 ..) (ifn (by omega) (sm _))) (fun x k i hi hx hk hk1 => by
  refine ⟨x.set i ((Int.tmod k 3) == 0), by simp, fun r hr => stp (fun k => laws_markBoolS.l0.eq_2 ..) (ifp (by omega) (ifp (by omega) ?_))⟩
  rw [up (by omega) (by omega : (i : Int) < (x.length : Int)) (by omega), w64 (x := k + 1) (by omega) (by omega), Int.toNat_natCast]
  exact hr) l a hl h0 h1
 exact ⟨m, evc (fun k => laws_markBoolS.f.eq_1 ..) hm⟩
theorem w1 {k : Int} (h0 : 0 ≤ k) (h1 : k ≤ 1000000000000000010) : wrap64 (k + 1) = k + 1 := w64 (by omega) (by omega)
theorem markLinks_is (l : List S92) (a : Int) (hl : l.length ≤ 140737488351232) (h0 : 0 ≤ a) (h1 : a + ((3 * l.length : Nat) : Int) ≤ 1000000000000000000) : ∃ m, Ev (fun k => laws_markLinkS.f k l a) (a + ((3 * l.length : Nat) : Int), m) := by
 obtain ⟨m, hm⟩ := markL 3 (fun x a i k => laws_markLinkS.l0 k x a i) (fun x k => stp (fun k => laws_markLinkS.l0.eq_2 ..) (ifn (by omega) (sm _))) (fun x k i hi hx hk hk1 => by
  refine Exists.intro ?y (And.intro ?ln ?hs)
  case hs =>
   intro r hr
   refine stp (fun k => laws_markLinkS.l0.eq_2 ..) (ifp (by omega) (ifp (by omega) (bnd0 rfl (bnd0 rfl ?_))))
   rw [up (by omega) (by omega : (i : Int) < (x.length : Int)) (by omega)]
   rw [w1 (k := k) (by omega) (by omega), w1 (k := k + 1) (by omega) (by omega), w1 (k := k + 1 + 1) (by omega) (by omega)]
   rw [show k + 1 + 1 + 1 = k + ((3 : Nat) : Int) by omega]
   exact hr
  case ln => simp) l a hl h0 h1
 exact ⟨m, evc (fun k => laws_markLinkS.f.eq_1 ..) hm⟩
theorem markImports_is (l : List S95) (a : Int) (hl : l.length ≤ 140737488351232) (h0 : 0 ≤ a) (h1 : a + ((5 * l.length : Nat) : Int) ≤ 1000000000000000000) : ∃ m, Ev (fun k => laws_markImportS.f k l a) (a + ((5 * l.length : Nat) : Int), m) := by
 obtain ⟨m, hm⟩ := markL 5 (fun x a i k => laws_markImportS.l0 k x a i) (fun x k => stp (fun k => laws_markImportS.l0.eq_2 ..) (ifn (by omega) (sm _))) (fun x k i hi hx hk hk1 => by
  refine Exists.intro ?y (And.intro ?ln ?hs)
  case hs =>
   intro r hr
   refine stp (fun k => laws_markImportS.l0.eq_2 ..) (ifp (by omega) (ifp (by omega) (bnd0 rfl (bnd0 rfl (bnd0 rfl (bnd0 rfl ?_))))))
   rw [up (by omega) (by omega : (i : Int) < (x.length : Int)) (by omega)]
   rw [w1 (k := k) (by omega) (by omega), w1 (k := k + 1) (by omega) (by omega), w1 (k := k + 1 + 1) (by omega) (by omega), w1 (k := k + 1 + 1 + 1) (by omega) (by omega), w1 (k := k + 1 + 1 + 1 + 1) (by omega) (by omega)]
   rw [show k + 1 + 1 + 1 + 1 + 1 = k + ((5 : Nat) : Int) by omega]
   exact hr
  case ln => simp) l a hl h0 h1
 exact ⟨m, evc (fun k => laws_markImportS.f.eq_1 ..) hm⟩
theorem markFilters_is (l : List S97) (a : Int) (hl : l.length ≤ 140737488351232) (h0 : 0 ≤ a) (h1 : a + ((4 * l.length : Nat) : Int) ≤ 1000000000000000000) : ∃ m, Ev (fun k => laws_markFilterS.f k l a) (a + ((4 * l.length : Nat) : Int), m) := by
 obtain ⟨m, hm⟩ := markL 4 (fun x a i k => laws_markFilterS.l0 k x a i) (fun x k => stp (fun k => laws_markFilterS.l0.eq_2 ..) (ifn (by omega) (sm _))) (fun x k i hi hx hk hk1 => by
  refine Exists.intro ?y (And.intro ?ln ?hs)
  case hs =>
   intro r hr
   refine stp (fun k => laws_markFilterS.l0.eq_2 ..) (ifp (by omega) (ifp (by omega) (bnd0 rfl (bnd0 rfl (bnd0 rfl ?_)))))
   rw [up (by omega) (by omega : (i : Int) < (x.length : Int)) (by omega)]
   rw [w1 (k := k) (by omega) (by omega), w1 (k := k + 1) (by omega) (by omega), w1 (k := k + 1 + 1) (by omega) (by omega), w1 (k := k + 1 + 1 + 1) (by omega) (by omega)]
   rw [show k + 1 + 1 + 1 + 1 = k + ((4 : Nat) : Int) by omega]
   exact hr
  case ln => simp) l a hl h0 h1
 exact ⟨m, evc (fun k => laws_markFilterS.f.eq_1 ..) hm⟩
theorem markNet_is (l0 : List ByteArray) (l1 : List S92) (l2 l3 : List Int) (l4 : List S95) (l5 : List S97) (h0 : l0.length ≤ 140737488351232) (h1 : l1.length ≤ 140737488351232) (h2 : l2.length ≤ 140737488351232) (h3 : l3.length ≤ 140737488351232) (h4 : l4.length ≤ 140737488351232) (h5 : l5.length ≤ 140737488351232) : ∃ r : Int × List ByteArray × (List S92) × List Int × List Int × (List S95) × (List S97), Ev (fun k => laws_markNet.f k l0 l1 l2 l3 l4 l5 1) r ∧ 0 ≤ r.1 ∧ r.1 ≤ 10000000000000000 := by
 obtain ⟨m0, e0⟩ := markStr_is l0 1 h0 (by omega) (by omega)
 obtain ⟨m1, e1⟩ := markLinks_is l1 (1 + ((1 * l0.length : Nat) : Int)) h1 (by omega) (by omega)
 obtain ⟨m2, e2⟩ := markInts_is l2 ((1 + ((1 * l0.length : Nat) : Int)) + ((3 * l1.length : Nat) : Int)) h2 (by omega) (by omega)
 obtain ⟨m3, e3⟩ := markInts_is l3 (((1 + ((1 * l0.length : Nat) : Int)) + ((3 * l1.length : Nat) : Int)) + ((1 * l2.length : Nat) : Int)) h3 (by omega) (by omega)
 obtain ⟨m4, e4⟩ := markImports_is l4 ((((1 + ((1 * l0.length : Nat) : Int)) + ((3 * l1.length : Nat) : Int)) + ((1 * l2.length : Nat) : Int)) + ((1 * l3.length : Nat) : Int)) h4 (by omega) (by omega)
 obtain ⟨m5, e5⟩ := markFilters_is l5 (((((1 + ((1 * l0.length : Nat) : Int)) + ((3 * l1.length : Nat) : Int)) + ((1 * l2.length : Nat) : Int)) + ((1 * l3.length : Nat) : Int)) + ((5 * l4.length : Nat) : Int)) h5 (by omega) (by omega)
 refine ⟨_, evc (fun k => laws_markNet.f.eq_1 ..) (bnd e0 (bnd e1 (bnd e2 (bnd e3 (bnd e4 (bnd e5 (sm _))))))), ?_, ?_⟩
 ·show 0 ≤ _
  omega
 ·show _ ≤ _
  omega
def nbL (l1 : List S92) (a : Int) (dn : List Bool) : Nat → Nat → List Int → List Int
 | 0, _, acc => acc
 | d + 1, i, acc => nbL l1 a dn d (i + 1) (if linkI l1 a (i : Int) ≥ 0 then (if rdOf false dn (linkI l1 a (i : Int)) = true then acc else acc ++ [(i : Int)]) else acc)
theorem nbL_len (l1 : List S92) (a : Int) (dn : List Bool) : ∀ (d i : Nat) (acc : List Int), (nbL l1 a dn d i acc).length ≤ acc.length + d
 | 0, i, acc => Nat.le_refl _
 | d + 1, i, acc => by
  rw [nbL]
  refine Nat.le_trans (nbL_len l1 a dn d (i + 1) _) ?_
  by_cases h1 : linkI l1 a (i : Int) ≥ 0
  ·rw [if_pos h1]
   by_cases h2 : rdOf false dn (linkI l1 a (i : Int)) = true
   ·rw [if_pos h2]; omega
   ·rw [if_neg h2, List.length_append, List.length_singleton]; omega
  ·rw [if_neg h1]; omega
theorem linkI_lt (l1 : List S92) (a b : Int) : linkI l1 a b < (l1.length : Int) ∨ linkI l1 a b = -1 := by
 unfold linkI
 obtain ⟨h1, h2⟩ := idxB_nonneg (joinB a b) l1 0
 cases h : l1.any (joinB a b) with
 | true => have := h1 h; omega
 | false => exact .inr (h2 h)
theorem sneigh_is (l0 : List ByteArray) (l1 : List S92) (l2 l3 : List Int) (l4 : List S95) (l5 : List S97) (a : Int) (dn : List Bool) (h0 : l0.length ≤ 4) (h1 : l1.length ≤ 6) (hd : dn.length = l1.length) : Ev (fun k => spec_l06Neighbours.f k l0 l1 l2 l3 l4 l5 a dn) (nbL l1 a dn l0.length 0 []) := by
 refine evc (fun k => spec_l06Neighbours.f.eq_1 ..) ?_
 have key : ∀ (d i : Nat) (acc : List Int), i + d = l0.length → acc.length ≤ i → Ev (fun k => spec_l06Neighbours.l0 k a dn acc (i : Int) l0 l1 l2 l3 l4 l5) (nbL l1 a dn d i acc) := by
  intro d
  induction d with
  | zero => intro i acc hi ha; exact stp (fun k => spec_l06Neighbours.l0.eq_2 ..) (ifn (by omega) (sm _))
  | succ d ih =>
   intro i acc hi ha
   have hu := up (i := (i : Int)) (by omega) (by omega : (i : Int) < (l0.length : Int)) (by omega)
   have hnx : ∀ acc : List Int, acc.length ≤ i + 1 → Ev (fun k => spec_l06Neighbours.l0 k a dn acc ((i : Int) + 1) l0 l1 l2 l3 l4 l5) (nbL l1 a dn d (i + 1) acc) := fun acc h => by
    have := ih (i + 1) acc (by omega) h
    rwa [show ((i + 1 : Nat) : Int) = (i : Int) + 1 by omega] at this
   refine stp (fun k => spec_l06Neighbours.l0.eq_2 ..) (ifp (by omega) (bnd (link_is l1 (by omega) a (i : Int)) ?_))
   rw [nbL, hu]
   by_cases hg : linkI l1 a (i : Int) ≥ 0
   ·rw [if_pos hg]
    have := linkI_lt l1 a (i : Int)
    refine ifp hg (ifp hg (ifp (by omega) ?_))
    by_cases hr : rdOf false dn (linkI l1 a (i : Int)) = true
    ·rw [if_pos hr]; exact ifp hr (hnx acc (by omega))
    ·rw [if_neg hr]; exact ifn hr (ifp (by omega) (hnx _ (by simp; omega)))
   ·rw [if_neg hg]; exact ifn hg (hnx acc (by omega))
 exact key l0.length 0 [] (by omega) (by simp)
theorem netB_sz {l0 : List ByteArray} {l1 : List S92} {l2 l3 : List Int} {l4 : List S95} {l5 : List S97} (h : netB l0 l1 l2 l3 l4 l5 = true) : 1 ≤ l0.length ∧ l0.length ≤ 4 ∧ l1.length ≤ 6 ∧ l3.length ≤ 2 := by
 unfold netB inB at h
 simp only [Bool.and_eq_true, decide_eq_true_eq] at h
 omega
def bet (a b : S80) : Bool := if a.f1 = b.f1 then (if a.f2 = b.f2 then decide (a.f0 < b.f0) else decide (a.f2 < b.f2)) else decide (a.f1 > b.f1)
def pick (b x : S80) : S80 := if bet x b = true then x else b
def noR : S80 := ⟨-3, 0, 0, false⟩
theorem eqR_self (l : List S80) (hl : l.length ≤ 140737488351232) : Ev (fun k => laws_eqRouteS.f k l l) true := by
 refine evc (fun _ => laws_eqRouteS.f.eq_1 ..) (ifp rfl ?_)
 refine same l (fun i k => laws_eqRouteS.l0 k l l i) ?_ ?_
 ·exact stp (fun _ => laws_eqRouteS.l0.eq_2 ..) (ifn (by omega) (sm _))
 ·intro i x hx hk
  have hi : i < l.length := (List.getElem?_eq_some_iff.1 hx).1
  refine stp (fun _ => laws_eqRouteS.l0.eq_2 ..) (ifp (by omega) (ifp (by omega) (ifp (by omega) ?_)))
  rw [up (by omega) (by omega : (i : Int) < (l.length : Int)) (by omega)]
  exact bnd0 (a := true) (by unfold laws_eqRoute.f; simp) (ifp rfl hk)
def thrB (l : List S80) (tt : Int) : Nat → Int → Bool
 | 0, _ => true
 | d + 1, k => if k = tt then true else if k < 0 then false else if (rd_T80 l k).f0 < 0 then false else thrB l tt d (rd_T80 l k).f0
theorem rd_mem80 (l : List S80) (k : Int) (h0 : 0 ≤ k) (h1 : k < (l.length : Int)) : rd_T80 l k ∈ l := by
 have hk : k.toNat < l.length := by omega
 rw [show rd_T80 l k = l[k.toNat] from getD_some (List.getElem?_eq_getElem hk)]
 exact List.getElem_mem hk
theorem thr_is (l : List S80) (hl : l.length ≤ 4096) (tt from_ : Int) (hf : from_ < (l.length : Int)) (hv : ∀ x ∈ l, x.f0 < (l.length : Int)) : Ev (fun k => spec_l07Through.f k l from_ tt) (thrB l tt (l.length + 1) from_) := by
 refine evc (fun _ => spec_l07Through.f.eq_1 ..) ?_
 have key : ∀ (d i : Nat) (c : Int), i + d = l.length + 1 → c < (l.length : Int) → Ev (fun k => spec_l07Through.l0 k l tt c (i : Int)) (thrB l tt d c) := by
  intro d
  induction d with
  | zero => intro i c hd hc; exact stp (fun _ => spec_l07Through.l0.eq_2 ..) (ifn (by omega) (sm _))
  | succ d ih =>
   intro i c hd hc
   refine stp (fun _ => spec_l07Through.l0.eq_2 ..) (ifp (by omega) ?_)
   rw [thrB]
   by_cases h1 : c = tt
   ·rw [if_pos h1]; exact ifp h1 (sm _)
   rw [if_neg h1]
   refine ifn h1 ?_
   by_cases h2 : c < 0
   ·rw [if_pos h2]; exact ifp h2 (sm _)
   rw [if_neg h2]
   refine ifn h2 (ifp (by omega) (ifp hc ?_))
   by_cases h3 : (rd_T80 l c).f0 < 0
   ·rw [if_pos h3]; exact ifp h3 (sm _)
   rw [if_neg h3, up (by omega) (by omega : (i : Int) < (l.length : Int) + 1) (by omega)]
   have := ih (i + 1) (rd_T80 l c).f0 (by omega) (hv _ (rd_mem80 l c (by omega) hc))
   exact ifn h3 (by rwa [show ((i + 1 : Nat) : Int) = (i : Int) + 1 by omega] at this)
 exact key (l.length + 1) 0 from_ (by omega) hf
theorem imp_eq (a b : Int) : ∀ (l : List S95), (∀ x ∈ l, 1 ≤ x.f3 ∧ x.f3 ≤ 4) → ∀ p m, impI a b l p m = impO a b l p m
 | [], h, p, m => rfl
 | x :: r, h, p, m => by
  have hx := h x (by simp)
  have ih := imp_eq a b r (fun y hy => h y (by simp [hy]))
  rw [impI, impO]
  by_cases c : ((((x.f0 != a) || (x.f1 != b)) || ((x.f2 == 1) && (!m))) || ((x.f2 == 2) && m)) = true
  ·rw [if_pos c, if_pos c, ih]
  rw [if_neg c, if_neg c]
  by_cases c1 : (x.f3 == 1) = true
  ·rw [if_pos c1, if_pos c1]
  rw [if_neg c1, if_neg c1]
  by_cases c2 : (x.f3 == 2) = true
  ·rw [if_pos c2, if_pos c2, ih]
  rw [if_neg c2, if_neg c2]
  by_cases c3 : (x.f3 == 3) = true
  ·rw [if_pos c3, ih, c3]
  rw [if_neg c3]
  have c4 : (x.f3 == 4) = true := by
   simp at c1 c2 c3 ⊢
   omega
  rw [if_pos c4, ih, Bool.eq_false_iff.2 c3]
def addC (l1 : List S92) (l4 : List S95) (rs : List S80) (a : Int) (acc : List S80) (v : Int) : List S80 :=
 if (rd_T80 rs v).f0 = -3 then acc else if thrB rs a (rs.length + 1) v = true then acc else
 match impO a v l4 100 (rd_T80 rs v).f3 with
 | none => acc
 | some q => acc ++ [⟨v, q.1, wrap64 ((rd_T80 rs v).f2 + (rd_T92 l1 (linkI l1 a v)).f2), q.2⟩]
theorem addC_ok (l1 : List S92) (l4 : List S95) (rs : List S80) (a : Int) (acc : List S80) (v : Int) (hv : v ≠ -3) : (addC l1 l4 rs a acc v).length ≤ acc.length + 1 ∧ ((∀ x ∈ acc, x.f0 ≠ -3) → ∀ x ∈ addC l1 l4 rs a acc v, x.f0 ≠ -3) := by
 unfold addC
 split
 ·exact ⟨by omega, fun h => h⟩
 split
 ·exact ⟨by omega, fun h => h⟩
 split
 ·exact ⟨by omega, fun h => h⟩
 ·refine ⟨by simp, fun h x hx => ?_⟩
  rcases List.mem_append.1 hx with hx | hx
  ·exact h x hx
  ·rw [List.mem_singleton.1 hx]; exact hv
theorem addCs_ok (l1 : List S92) (l4 : List S95) (rs : List S80) (a : Int) : ∀ (ns : List Int) (acc : List S80), (∀ v ∈ ns, v ≠ -3) → (ns.foldl (addC l1 l4 rs a) acc).length ≤ acc.length + ns.length ∧ ((∀ x ∈ acc, x.f0 ≠ -3) → ∀ x ∈ ns.foldl (addC l1 l4 rs a) acc, x.f0 ≠ -3)
 | [], acc, h => ⟨by simp, fun h => h⟩
 | v :: r, acc, h => by
  obtain ⟨h1, h2⟩ := addC_ok l1 l4 rs a acc v (h v (by simp))
  obtain ⟨h3, h4⟩ := addCs_ok l1 l4 rs a r (addC l1 l4 rs a acc v) (fun w hw => h w (by simp [hw]))
  rw [List.foldl_cons, List.length_cons]
  exact ⟨by omega, fun h => h4 (h2 h)⟩
def idxE (l : List Int) (a : Int) : Int := idxB (fun x => x == a) l 0
theorem idxE_lt (l : List Int) (a : Int) : idxE l a < (l.length : Int) ∧ (0 ≤ idxE l a ∨ idxE l a = -1) := by
 obtain ⟨h1, h2⟩ := idxB_nonneg (fun x : Int => x == a) l 0
 unfold idxE
 cases h : l.any (fun x => x == a) with
 | true => have := h1 h; omega
 | false => have := h2 h; omega
theorem has_is (l : List Int) (hl : l.length ≤ 140737488351232) (a : Int) : Ev (fun k => spec_l07Has.f k l a) (idxE l a) := by
 refine evc (fun k => spec_l07Has.f.eq_1 ..) ?_
 refine findL l (fun x => x == a) (fun i k => spec_l07Has.l0 k l a i) ?_ ?_
 ·exact stp (fun k => spec_l07Has.l0.eq_2 ..) (ifn (by omega) (sm _))
 ·intro i x hx
  have hi : i < l.length := (List.getElem?_eq_some_iff.1 hx).1
  have hr : rd l (i : Int) = x := getD_some hx
  have hu := up (i := (i : Int)) (by omega) (by omega : (i : Int) < (l.length : Int)) (by omega)
  constructor
  ·intro hp
   refine stp (fun k => spec_l07Has.l0.eq_2 ..) (ifp (by omega) (ifp (by omega) ?_))
   rw [hr]
   exact ifp (by simpa using hp) (sm _)
  ·intro hp r hk
   refine stp (fun k => spec_l07Has.l0.eq_2 ..) (ifp (by omega) (ifp (by omega) ?_))
   rw [hr, hu]
   exact ifn (by simpa using hp) hk
theorem index_is (l : List Int) (hl : l.length ≤ 140737488351232) (a : Int) : Ev (fun k => slices_Index_int_int.f k l a) (idxE l a) := by
 refine evc (fun k => slices_Index_int_int.f.eq_1 ..) ?_
 refine findL l (fun x => x == a) (fun i k => slices_Index_int_int.l0 k l a (l.length : Int) i) ?_ ?_
 ·exact stp (fun k => slices_Index_int_int.l0.eq_2 ..) (ifn (by omega) (sm _))
 ·intro i x hx
  have hi : i < l.length := (List.getElem?_eq_some_iff.1 hx).1
  have hr : rd l (i : Int) = x := getD_some hx
  have hu := up (i := (i : Int)) (by omega) (by omega : (i : Int) < (l.length : Int)) (by omega)
  constructor
  ·intro hp
   refine stp (fun k => slices_Index_int_int.l0.eq_2 ..) (ifp (by omega) (ifp (by omega) (ifp (by omega) ?_)))
   rw [hr]
   exact ifp (by simp at hp; omega) (sm _)
  ·intro hp r hk
   refine stp (fun k => slices_Index_int_int.l0.eq_2 ..) (ifp (by omega) (ifp (by omega) (ifp (by omega) ?_)))
   rw [hr, hu]
   exact ifn (by simp at hp; omega) hk
def ownC (l2 : List Int) (a : Int) : List S80 := if idxE l2 a ≥ 0 then [⟨-2, 200, 0, false⟩] else []
def extC (l3 env : List Int) (a : Int) (acc : List S80) : List S80 :=
 if idxE l3 a ≥ 0 then (if rd env (idxE l3 a) > 0 then acc ++ [⟨-1, 100, 2, rd env (idxE l3 a) == 2⟩] else acc) else acc
def cndL (l0 : List ByteArray) (l1 : List S92) (l2 l3 : List Int) (l4 : List S95) (env : List Int) (dn : List Bool) (rs : List S80) (a : Int) : List S80 :=
 (nbL l1 a dn l0.length 0 []).foldl (addC l1 l4 rs a) (extC l3 env a (ownC l2 a))
theorem nbL_mem (l1 : List S92) (a : Int) (dn : List Bool) (n : Nat) : ∀ (d i : Nat) (acc : List Int), i + d = n → (∀ v ∈ acc, 0 ≤ v ∧ v < (n : Int) ∧ 0 ≤ linkI l1 a v) → ∀ v ∈ nbL l1 a dn d i acc, 0 ≤ v ∧ v < (n : Int) ∧ 0 ≤ linkI l1 a v
 | 0, i, acc, hd, h => h
 | d + 1, i, acc, hd, h => by
  rw [nbL]
  refine nbL_mem l1 a dn n d (i + 1) _ (by omega) ?_
  split
  ·split
   ·exact h
   ·intro v hv
    rcases List.mem_append.1 hv with hv | hv
    ·exact h v hv
    ·rw [List.mem_singleton.1 hv]; exact ⟨by omega, by omega, by assumption⟩
  ·exact h
theorem own_ok (l2 : List Int) (a : Int) : (ownC l2 a).length ≤ 1 ∧ ∀ x ∈ ownC l2 a, x.f0 ≠ -3 := by
 unfold ownC
 split
 ·exact ⟨by simp, fun x hx => by rw [List.mem_singleton.1 hx]; decide⟩
 ·exact ⟨by simp, fun x hx => by cases hx⟩
theorem ext_ok (l3 env : List Int) (a : Int) (acc : List S80) : (extC l3 env a acc).length ≤ acc.length + 1 ∧ ((∀ x ∈ acc, x.f0 ≠ -3) → ∀ x ∈ extC l3 env a acc, x.f0 ≠ -3) := by
 unfold extC
 split
 ·split
  ·refine ⟨by simp, fun h x hx => ?_⟩
   rcases List.mem_append.1 hx with hx | hx
   ·exact h x hx
   ·rw [List.mem_singleton.1 hx]; exact (show (-1 : Int) ≠ -3 by decide)
  ·exact ⟨by omega, fun h => h⟩
 ·exact ⟨by omega, fun h => h⟩
theorem cnd_ok (l0 : List ByteArray) (l1 : List S92) (l2 l3 : List Int) (l4 : List S95) (env : List Int) (dn : List Bool) (rs : List S80) (a : Int) : (cndL l0 l1 l2 l3 l4 env dn rs a).length ≤ l0.length + 2 ∧ ∀ x ∈ cndL l0 l1 l2 l3 l4 env dn rs a, x.f0 ≠ -3 := by
 have h0 := nbL_len l1 a dn l0.length 0 []
 have hm := nbL_mem l1 a dn l0.length l0.length 0 [] (by omega) (fun v hv => by cases hv)
 obtain ⟨h1, h2⟩ := own_ok l2 a
 obtain ⟨h3, h4⟩ := ext_ok l3 env a (ownC l2 a)
 obtain ⟨h5, h6⟩ := addCs_ok l1 l4 rs a (nbL l1 a dn l0.length 0 []) (extC l3 env a (ownC l2 a)) (fun v hv => by have := hm v hv; omega)
 unfold cndL
 rw [List.length_nil] at h0
 exact ⟨by omega, h6 (h4 h2)⟩
section
variable (l0 : List ByteArray) (l1 : List S92) (l2 l3 : List Int) (l4 : List S95) (l5 : List S97) (env : List Int) (dn : List Bool) (rs : List S80) (a : Int)
 (h0 : l0.length ≤ 4) (h1 : l1.length ≤ 6) (h2 : l2.length ≤ 140737488351232) (h3 : l3.length ≤ 2) (hd : dn.length = l1.length) (he : env.length = l3.length) (hrs : rs.length = l0.length) (hv : ∀ x ∈ rs, x.f0 < (rs.length : Int))
include h0 h1 h2 h3 hd he hrs hv
theorem nbs_ok : (nbL l1 a dn l0.length 0 []).length ≤ 4 ∧ ∀ v ∈ nbL l1 a dn l0.length 0 [], 0 ≤ v ∧ v < (rs.length : Int) ∧ 0 ≤ linkI l1 a v ∧ linkI l1 a v < (l1.length : Int) := by
 have _u := And.intro h1 (And.intro h2 (And.intro h3 (And.intro he hv)))
 have hl := nbL_len l1 a dn l0.length 0 []
 have hm := nbL_mem l1 a dn l0.length l0.length 0 [] (by omega) (fun v hv => by cases hv)
 rw [List.length_nil] at hl
 refine ⟨by omega, fun v hv => ?_⟩
 have q := hm v hv
 have q2 := linkI_lt l1 a v
 omega
theorem simport_is (v r0 r1 r2 : Int) (r3 : Bool) (hk : 0 ≤ linkI l1 a v) (hk2 : linkI l1 a v < (l1.length : Int)) : Ev (fun k => spec_l07Import.f k l0 l1 l2 l3 l4 l5 a v r0 r1 r2 r3) (resO v (wrap64 (r2 + (rd_T92 l1 (linkI l1 a v)).f2)) (impO a v l4 100 r3)) := by
 have _u := And.intro h0 (And.intro h2 (And.intro h3 (And.intro he (And.intro hrs hv))))
 exact evc (fun k => spec_l07Import.f.eq_1 ..) (bnd (link_is l1 (by omega) a v) (ifp ⟨hk, hk2⟩ (sm _)))
theorem scand_loop (ns : List Int) (hnl : ns.length ≤ 4) (hns : ∀ v ∈ ns, 0 ≤ v ∧ v < (rs.length : Int) ∧ 0 ≤ linkI l1 a v ∧ linkI l1 a v < (l1.length : Int)) : ∀ (d i : Nat) (acc : List S80), i + d = ns.length → acc.length ≤ i + 2 → Ev (fun k => spec_l07Candidates.l0 k a rs acc ns (i : Int) l0 l1 l2 l3 l4 l5) ((ns.drop i).foldl (addC l1 l4 rs a) acc) := by
 intro d
 induction d with
 | zero =>
  intro i acc hi ha
  refine stp (fun k => spec_l07Candidates.l0.eq_2 ..) (ifn (by omega) ?_)
  rw [List.drop_of_length_le (by omega)]
  exact sm _
 | succ d ih =>
  intro i acc hi ha
  have hlt : i < ns.length := by omega
  have hx : rd ns (i : Int) = ns[i] := getD_some (List.getElem?_eq_getElem hlt)
  obtain ⟨v0, v1, v2, v3⟩ := hns ns[i] (List.getElem_mem hlt)
  have hnx : ∀ acc : List S80, acc.length ≤ i + 1 + 2 → Ev (fun k => spec_l07Candidates.l0 k a rs acc ns (wrap64 ((i : Int) + 1)) l0 l1 l2 l3 l4 l5) ((ns.drop (i + 1)).foldl (addC l1 l4 rs a) acc) := fun acc h => by
   have := ih (i + 1) acc (by omega) h
   rwa [show ((i + 1 : Nat) : Int) = wrap64 ((i : Int) + 1) by rw [up (i := (i : Int)) (by omega) (by omega : (i : Int) < (ns.length : Int)) (by omega)]; omega] at this
  rw [List.drop_eq_getElem_cons hlt, List.foldl_cons]
  refine stp (fun k => spec_l07Candidates.l0.eq_2 ..) (ifp (by omega) (ifp (by omega) ?_))
  rw [hx]
  generalize ns[i] = v at *
  refine ifp v0 (ifp v1 ?_)
  by_cases c3 : (rd_T80 rs v).f0 = -3
  ·rw [show addC l1 l4 rs a acc v = acc by unfold addC; rw [if_pos c3]]
   exact ifp c3 (stp (fun k => spec_l07Candidates.j4.eq_2 ..) (ifp rfl (hnx acc (by omega))))
  refine ifn c3 (bnd (thr_is rs (by omega) a v v1 hv) (stp (fun k => spec_l07Candidates.j4.eq_2 ..) ?_))
  cases ht : thrB rs a (rs.length + 1) v with
  | true =>
   rw [show addC l1 l4 rs a acc v = acc by unfold addC; rw [if_neg c3, if_pos ht]]
   exact ifp rfl (hnx acc (by omega))
  | false =>
   refine ifn Bool.false_ne_true (ifp (by omega) (ifp (by omega) ?_))
   rw [hx]
   refine ifp v0 (ifp v1 (bnd (simport_is l0 l1 l2 l3 l4 l5 env dn rs a h0 h1 h2 h3 hd he hrs hv v _ _ _ _ v2 v3) ?_))
   cases hq : impO a v l4 100 (rd_T80 rs v).f3 with
   | none =>
    rw [show addC l1 l4 rs a acc v = acc by unfold addC; rw [if_neg c3, if_neg (by rw [ht]; exact Bool.false_ne_true), hq]]
    exact ifp rfl (hnx acc (by omega))
   | some q =>
    rw [show addC l1 l4 rs a acc v = acc ++ [⟨v, q.1, wrap64 ((rd_T80 rs v).f2 + (rd_T92 l1 (linkI l1 a v)).f2), q.2⟩] by unfold addC; rw [if_neg c3, if_neg (by rw [ht]; exact Bool.false_ne_true), hq]]
    exact ifn (show ¬ v = -3 by omega) (ifp (by omega) (hnx _ (by rw [List.length_append, List.length_singleton]; omega)))
theorem scand_is : Ev (fun k => spec_l07Candidates.f k l0 l1 l2 l3 l4 l5 a env dn rs) (cndL l0 l1 l2 l3 l4 env dn rs a) := by
 obtain ⟨n1, n2⟩ := nbs_ok l0 l1 l2 l3 env dn rs a h0 h1 h2 h3 hd he hrs hv
 have j2 : ∀ acc : List S80, acc.length ≤ 2 → Ev (fun k => spec_l07Candidates.j2 k a dn rs acc l0 l1 l2 l3 l4 l5) ((nbL l1 a dn l0.length 0 []).foldl (addC l1 l4 rs a) acc) := fun acc hacc =>
  stp (fun k => spec_l07Candidates.j2.eq_2 ..) (bnd (sneigh_is l0 l1 l2 l3 l4 l5 a dn h0 h1 hd) (scand_loop l0 l1 l2 l3 l4 l5 env dn rs a h0 h1 h2 h3 hd he hrs hv _ n1 n2 (nbL l1 a dn l0.length 0 []).length 0 acc (by omega) (by omega)))
 have j0 : ∀ acc : List S80, acc.length ≤ 1 → Ev (fun k => spec_l07Candidates.j0 k a env dn rs acc l0 l1 l2 l3 l4 l5) ((nbL l1 a dn l0.length 0 []).foldl (addC l1 l4 rs a) (extC l3 env a acc)) := fun acc hacc => by
  have hlt := idxE_lt l3 a
  refine stp (fun k => spec_l07Candidates.j0.eq_2 ..) (bnd (has_is l3 (by omega) a) ?_)
  unfold extC
  by_cases c : idxE l3 a ≥ 0
  ·rw [if_pos c]
   refine ifp c (ifp c (ifp (by omega) (stp (fun k => spec_l07Candidates.j1.eq_2 ..) ?_)))
   by_cases c2 : rd env (idxE l3 a) > 0
   ·rw [if_pos c2]
    exact ifp (decide_eq_true c2) (ifp c (ifp (by omega) (ifp (by omega) (j2 _ (by rw [List.length_append, List.length_singleton]; omega)))))
   ·rw [if_neg c2]
    exact ifn (by simpa using c2) (j2 _ (by omega))
  ·rw [if_neg c]
   exact ifn c (stp (fun k => spec_l07Candidates.j1.eq_2 ..) (ifn Bool.false_ne_true (j2 _ (by omega))))
 refine evc (fun k => spec_l07Candidates.f.eq_1 ..) (bnd0 rfl (bnd (has_is l2 h2 a) ?_))
 unfold cndL ownC
 by_cases c : idxE l2 a ≥ 0
 ·rw [if_pos c]
  exact ifp c (ifp (by simp) (j0 _ (by simp)))
 ·rw [if_neg c]
  exact ifn c (j0 _ (by simp))
end
section
variable (l0 : List ByteArray) (l1 : List S92) (l2 l3 : List Int) (l4 : List S95) (l5 : List S97) (env : List Int) (dn : List Bool) (rs : List S80) (a : Int)
 (h0 : l0.length ≤ 4) (h1 : l1.length ≤ 6) (h2 : l2.length ≤ 140737488351232) (h3 : l3.length ≤ 2) (hd : dn.length = l1.length) (he : env.length = l3.length) (hrs : rs.length = l0.length) (hv : ∀ x ∈ rs, x.f0 < (rs.length : Int))
 (ha : 0 ≤ a) (h4 : ∀ x ∈ l4, 1 ≤ x.f3 ∧ x.f3 ≤ 4) (hen : ∀ x ∈ env, 0 ≤ x)
include h0 h1 h2 h3 hd he hrs hv ha h4 hen
end
def envC (l0 : List ByteArray) (l1 : List S92) (l2 l3 : List Int) (l4 : List S95) (l5 : List S97) (env : List Int) (dn : List Bool) : Int :=
 if netB l0 l1 l2 l3 l4 l5 = true then (if aroundB l3.length l1.length env dn.length = true then 0 else 5) else 1
theorem senv_is (l0 : List ByteArray) (l1 : List S92) (l2 l3 : List Int) (l4 : List S95) (l5 : List S97) (hs : ∀ x ∈ l0, x.size ≤ 140737488351232) (h2 : l2.length ≤ 140737488351232) (h3 : l3.length ≤ 140737488351232) (env : List Int) (dn : List Bool) : Ev (fun k => spec_l07Env.f k l0 l1 l2 l3 l4 l5 env dn) (if (env.length : Int) > 4096 ∨ (dn.length : Int) > 4096 then 2 else envC l0 l1 l2 l3 l4 l5 env dn) := by
 refine evc (fun k => spec_l07Env.f.eq_1 ..) ?_
 by_cases b1 : (env.length : Int) > 4096
 ·rw [if_pos (Or.inl b1)]
  exact ifp b1 (stp (fun k => spec_l07Env.j0.eq_2 ..) (ifp rfl (sm _)))
 refine ifn b1 (stp (fun k => spec_l07Env.j0.eq_2 ..) ?_)
 by_cases b2 : (dn.length : Int) > 4096
 ·rw [if_pos (Or.inr b2)]
  exact ifp (decide_eq_true b2) (sm _)
 rw [if_neg (fun h => h.elim b1 b2)]
 refine ifn (by simpa using b2) (bnd (specNet_is l0 l1 l2 l3 l4 l5 hs h2 h3) ?_)
 unfold envC
 cases netB l0 l1 l2 l3 l4 l5 with
 | false => exact ifn Bool.false_ne_true (sm _)
 | true =>
  rw [if_pos rfl]
  refine ifp rfl ?_
  unfold aroundB
  by_cases e1 : env.length = l3.length
  ·rw [decide_eq_true e1, Bool.true_and]
   refine ifp (by omega) (stp (fun k => spec_l07Env.j1.eq_2 ..) ?_)
   by_cases e2 : dn.length = l1.length
   ·rw [decide_eq_true e2, Bool.true_and]
    refine ifn (by simp; omega) ?_
    have key : ∀ (d i : Nat), i + d = env.length → Ev (fun k => spec_l07Env.l0 k env (i : Int)) (if (!((env.drop i).any fun x => !(decide (0 ≤ x) && decide (x ≤ 2)))) = true then 0 else 5) := by
     intro d
     induction d with
     | zero =>
      intro i hi
      rw [List.drop_of_length_le (by omega)]
      exact stp (fun k => spec_l07Env.l0.eq_2 ..) (ifn (by omega) (sm _))
     | succ d ih =>
      intro i hi
      have hlt : i < env.length := by omega
      have hx : rd env (i : Int) = env[i] := getD_some (List.getElem?_eq_getElem hlt)
      have hnx := ih (i + 1) (by omega)
      rw [show ((i + 1 : Nat) : Int) = (i : Int) + 1 by omega] at hnx
      refine stp (fun k => spec_l07Env.l0.eq_2 ..) (ifp (by omega) (ifp (by omega) ?_))
      rw [hx, up (i := (i : Int)) (by omega) (by omega : (i : Int) < (env.length : Int)) (by omega), List.drop_eq_getElem_cons hlt, List.any_cons]
      refine bnd0 (sin_is _ _ _) ?_
      unfold inB
      cases (decide (0 ≤ env[i]) && decide (env[i] ≤ 2)) with
      | false => exact ifn Bool.false_ne_true (sm _)
      | true => exact ifp rfl hnx
    have := key env.length 0 (by omega)
    rwa [List.drop_zero] at this
   ·rw [decide_eq_false e2]
    exact ifp (by simp; omega) (sm _)
  ·rw [decide_eq_false e1]
   exact ifn (by omega) (stp (fun k => spec_l07Env.j1.eq_2 ..) (ifp rfl (sm _)))
section
variable (l0 : List ByteArray) (l1 : List S92) (l2 l3 : List Int) (l4 : List S95) (l5 : List S97) (env : List Int) (dn : List Bool) (rs : List S80)
 (h0 : l0.length ≤ 4) (h1 : l1.length ≤ 6) (h2 : l2.length ≤ 140737488351232) (h3 : l3.length ≤ 2) (hd : dn.length = l1.length) (he : env.length = l3.length) (hrs : rs.length = l0.length) (hv : ∀ x ∈ rs, x.f0 < (rs.length : Int))
include h0 h1 h2 h3 hd he hrs hv
end
section
variable (l0 : List ByteArray) (l1 : List S92) (l2 l3 : List Int) (l4 : List S95) (l5 : List S97) (env : List Int) (dn : List Bool) (rs : List S80)
 (h0 : l0.length ≤ 4) (h1 : l1.length ≤ 6) (h2 : l2.length ≤ 140737488351232) (h3 : l3.length ≤ 2) (hd : dn.length = l1.length) (he : env.length = l3.length) (hrs : rs.length = l0.length) (hv : ∀ x ∈ rs, x.f0 < (rs.length : Int))
 (h4 : ∀ x ∈ l4, 1 ≤ x.f3 ∧ x.f3 ≤ 4) (hen : ∀ x ∈ env, 0 ≤ x)
include h0 h1 h2 h3 hd he hrs hv h4 hen
end
theorem impB_mem (all : List S92) (l : List S95) (h : (!(l.any (impBad all))) = true) : ∀ x ∈ l, 1 ≤ x.f3 ∧ x.f3 ≤ 4 := fun x hx => by
 have h1 : impBad all x = false := by
  cases hb : impBad all x with
  | false => rfl
  | true => rw [List.any_eq_true.2 ⟨x, hx, hb⟩] at h; cases h
 unfold impBad importB inB at h1
 simp only [Bool.or_eq_false_iff, Bool.not_eq_false', Bool.and_eq_true, decide_eq_true_eq] at h1
 exact h1.2.2.1
theorem netB_more {l0 : List ByteArray} {l1 : List S92} {l2 l3 : List Int} {l4 : List S95} {l5 : List S97} (h : netB l0 l1 l2 l3 l4 l5 = true) : linksB l0.length l1 l1 0 = true ∧ ∀ x ∈ l4, 1 ≤ x.f3 ∧ x.f3 ≤ 4 := by
 unfold netB at h
 simp only [Bool.and_eq_true] at h
 exact ⟨h.2.2.2.2.2.1, impB_mem l1 l4 h.2.2.2.2.2.2.1⟩
theorem around_more {e n : Nat} {env : List Int} {d : Nat} (h : aroundB e n env d = true) : env.length = e ∧ d = n ∧ ∀ x ∈ env, 0 ≤ x := by
 unfold aroundB at h
 simp only [Bool.and_eq_true, decide_eq_true_eq, Bool.not_eq_true'] at h
 refine ⟨h.1, h.2.1, fun x hx => ?_⟩
 have h3 := List.any_eq_false.1 h.2.2 x hx
 simp at h3
 omega
theorem icode_is (l0 : List ByteArray) (l1 : List S92) (l2 l3 : List Int) (l4 : List S95) (l5 : List S97) (hs : ∀ x ∈ l0, x.size ≤ 140737488351232) (h2 : l2.length ≤ 140737488351232) (h3 : l3.length ≤ 140737488351232) (env : List Int) (dn : List Bool) (rs : List S80) (hand : Bool) (b : Bool) (hb : hand = true → impl_areRoutes.f l0 l1 l2 l3 l4 l5 rs = some b) :
  Ev (fun k => impl_routesCode.f k l0 l1 l2 l3 l4 l5 env dn rs hand) (if ((env.length : Int) > 4096 ∨ (dn.length : Int) > 4096) ∨ (rs.length : Int) > 4096 then 2 else if envC l0 l1 l2 l3 l4 l5 env dn = 0 then (if hand = true then (if b = true then 0 else 1) else 0) else envC l0 l1 l2 l3 l4 l5 env dn) := by
 refine evc (fun k => impl_routesCode.f.eq_1 ..) ?_
 by_cases b1 : (env.length : Int) > 4096
 ·rw [if_pos (Or.inl (Or.inl b1))]
  exact ifp b1 (stp (fun k => impl_routesCode.j0.eq_2 ..) (ifp rfl (sm _)))
 refine ifn b1 ?_
 by_cases b2 : (dn.length : Int) > 4096
 ·rw [if_pos (Or.inl (Or.inr b2))]
  exact ifp b2 (stp (fun k => impl_routesCode.j0.eq_2 ..) (ifp rfl (sm _)))
 refine ifn b2 (stp (fun k => impl_routesCode.j0.eq_2 ..) ?_)
 by_cases b3 : (rs.length : Int) > 4096
 ·rw [if_pos (Or.inr b3)]
  exact ifp (decide_eq_true b3) (sm _)
 rw [if_neg (show ¬ (((env.length : Int) > 4096 ∨ (dn.length : Int) > 4096) ∨ (rs.length : Int) > 4096) from fun h => h.elim (fun h => h.elim b1 b2) b3)]
 refine ifn (by simpa using b3) (bnd (implNet_is l0 l1 l2 l3 l4 l5 hs h2 h3) ?_)
 unfold envC
 cases netB l0 l1 l2 l3 l4 l5 with
 | false => exact ifn Bool.false_ne_true (sm _)
 | true =>
  refine ifp rfl (bnd0 rfl ?_)
  cases aroundB l3.length l1.length env dn.length with
  | false => exact ifn Bool.false_ne_true (sm _)
  | true =>
   refine ifp rfl ?_
   cases hand with
   | false => exact ifn Bool.false_ne_true (sm _)
   | true =>
    refine ifp rfl (bnd0 (hb rfl) ?_)
    cases b with
    | false => exact ifn Bool.false_ne_true (sm _)
    | true => exact ifp rfl (sm _)
def mkR (k : Int) : S80 := ⟨k, k + 1, k + 1 + 1, (Int.tmod (k + 1 + 1 + 1) 3) == 0⟩
theorem rd_set80 {x : List S80} {i : Nat} {a : S80} (h : i < x.length) : rd_T80 (x.set i a) (i : Int) = a := by
 unfold rd_T80
 simp [List.getD, h]
theorem rd_setne80 {x : List S80} {i j : Nat} {a : S80} (h : j ≠ i) : rd_T80 (x.set i a) (j : Int) = rd_T80 x (j : Int) := by
 unfold rd_T80
 rw [Int.toNat_natCast, List.getD_eq_getElem?_getD, List.getElem?_set_ne (by omega), ← List.getD_eq_getElem?_getD]
theorem markR_step (x : List S80) (k : Int) (i : Nat) (hi : i < x.length) (hx : x.length ≤ 140737488351232) (h0 : 0 ≤ k) (h1 : k ≤ 1000000000000000000) (r : Int × List S80) (hr : Ev (fun q => laws_markRouteS.l0 q (x.set i (mkR k)) (k + 4) ((i : Int) + 1)) r) : Ev (fun q => laws_markRouteS.l0 q x k (i : Int)) r := by
 refine stp (fun k => laws_markRouteS.l0.eq_2 ..) (ifp (by omega) (ifp (by omega) (bnd0 rfl (bnd0 rfl (bnd0 rfl ?_)))))
 rw [up (by omega) (by omega : (i : Int) < (x.length : Int)) (by omega)]
 rw [w1 (k := k) (by omega) (by omega), w1 (k := k + 1) (by omega) (by omega), w1 (k := k + 1 + 1) (by omega) (by omega), w1 (k := k + 1 + 1 + 1) (by omega) (by omega)]
 simp only [Int.toNat_natCast, List.set_set, rd_set80 hi]
 rw [show k + 1 + 1 + 1 + 1 = k + 4 by omega]
 exact hr
theorem markR_is (l : List S80) (k0 : Int) (hl : l.length ≤ 140737488351232) (h0 : 0 ≤ k0) (h1 : k0 + 4 * (l.length : Int) ≤ 1000000000000000000) : ∃ m : List S80, m.length = l.length ∧ (∀ j : Nat, j < m.length → rd_T80 m (j : Int) = mkR (k0 + 4 * (j : Int))) ∧ Ev (fun k => laws_markRouteS.f k l k0) (k0 + 4 * (l.length : Int), m) := by
 have key : ∀ (d i : Nat) (x : List S80), i + d = l.length → x.length = l.length → (∀ j : Nat, j < i → rd_T80 x (j : Int) = mkR (k0 + 4 * (j : Int))) → ∃ m : List S80, m.length = l.length ∧ (∀ j : Nat, j < m.length → rd_T80 m (j : Int) = mkR (k0 + 4 * (j : Int))) ∧ Ev (fun k => laws_markRouteS.l0 k x (k0 + 4 * (i : Int)) (i : Int)) (k0 + 4 * (l.length : Int), m) := by
  intro d
  induction d with
  | zero =>
   intro i x hi hx hj
   obtain rfl : i = l.length := by omega
   exact ⟨x, hx, by rw [hx]; exact hj, stp (fun k => laws_markRouteS.l0.eq_2 ..) (ifn (by omega) (sm _))⟩
  | succ d ih =>
   intro i x hi hx hj
   obtain ⟨m, m1, m2, m3⟩ := ih (i + 1) (x.set i (mkR (k0 + 4 * (i : Int)))) (by omega) (by simpa using hx) (by
    intro j hlt
    by_cases e : j = i
    ·subst e; exact rd_set80 (by omega)
    ·rw [rd_setne80 e]; exact hj j (by omega))
   refine ⟨m, m1, m2, markR_step x _ i (by omega) (by omega) (by omega) (by omega) _ ?_⟩
   rw [show ((i + 1 : Nat) : Int) = (i : Int) + 1 by omega] at m3
   rw [show k0 + 4 * (i : Int) + 4 = k0 + 4 * ((i : Int) + 1) by omega]
   exact m3
 obtain ⟨m, m1, m2, m3⟩ := key l.length 0 l (by omega) rfl (fun j hj => absurd hj (Nat.not_lt_zero _))
 refine ⟨m, m1, m2, evc (fun k => laws_markRouteS.f.eq_1 ..) ?_⟩
 simpa using m3
theorem heldR_is (m : List S80) (k0 : Int) (hl : m.length ≤ 140737488351232) (h0 : 0 ≤ k0) (h1 : k0 + 4 * (m.length : Int) ≤ 1000000000000000000) (hm : ∀ j : Nat, j < m.length → rd_T80 m (j : Int) = mkR (k0 + 4 * (j : Int))) : Ev (fun k => laws_heldRouteS.f k m k0) (k0 + 4 * (m.length : Int)) := by
 have key : ∀ (d i : Nat), i + d = m.length → Ev (fun k => laws_heldRouteS.l0 k m (k0 + 4 * (i : Int)) (i : Int)) (k0 + 4 * (m.length : Int)) := by
  intro d
  induction d with
  | zero =>
   intro i hi
   obtain rfl : i = m.length := by omega
   exact stp (fun k => laws_heldRouteS.l0.eq_2 ..) (ifn (by omega) (sm _))
  | succ d ih =>
   intro i hi
   have hnx := ih (i + 1) (by omega)
   rw [show ((i + 1 : Nat) : Int) = (i : Int) + 1 by omega, show k0 + 4 * ((i : Int) + 1) = k0 + 4 * (i : Int) + 4 by omega] at hnx
   generalize hk : k0 + 4 * (i : Int) = k at hnx
   have hv := hm i (by omega)
   rw [hk] at hv
   refine stp (fun k => laws_heldRouteS.l0.eq_2 ..) (ifp (by omega) (ifp (by omega) ?_))
   rw [hv, up (by omega) (by omega : (i : Int) < (m.length : Int)) (by omega)]
   rw [w1 (k := k) (by omega) (by omega), w1 (k := k + 1) (by omega) (by omega), w1 (k := k + 1 + 1) (by omega) (by omega), w1 (k := k + 1 + 1 + 1) (by omega) (by omega), show k + 1 + 1 + 1 + 1 = k + 4 by omega]
   exact ifp rfl (ifp rfl (ifp rfl (ifn (by unfold mkR; simp) hnx)))
 have := key m.length 0 (by omega)
 refine evc (fun k => laws_heldRouteS.f.eq_1 ..) ?_
 simpa using this
def baseR (l2 l3 env : List Int) (i v : Int) : Option S80 :=
 if v = -3 then some noR else if v = -2 then (if idxE l2 i ≥ 0 then some ⟨-2, 200, 0, false⟩ else none) else
 (if idxE l3 i ≥ 0 then (if rd env (idxE l3 i) > 0 then some ⟨-1, 100, 2, rd env (idxE l3 i) == 2⟩ else none) else none)
def hopR (l1 : List S92) (l4 : List S95) (i v : Int) (r : S80) : Option S80 :=
 if r.f0 = -3 then none else match impO i v l4 100 r.f3 with
 | none => none
 | some q => some ⟨v, q.1, wrap64 (r.f2 + (rd_T92 l1 (linkI l1 i v)).f2), q.2⟩
def lkR (l1 : List S92) (dn : List Bool) (i v : Int) : Bool := decide (linkI l1 i v ≥ 0) && !(rdOf false dn (linkI l1 i v))
def rtD (l1 : List S92) (l2 l3 : List Int) (l4 : List S95) (env : List Int) (dn : List Bool) (vs : List Int) : Nat → Int → Option S80
 | 0, i => if rd vs i < 0 then baseR l2 l3 env i (rd vs i) else none
 | d + 1, i => if rd vs i < 0 then baseR l2 l3 env i (rd vs i) else if lkR l1 dn i (rd vs i) = true then (rtD l1 l2 l3 l4 env dn vs d (rd vs i)).bind (hopR l1 l4 i (rd vs i)) else none
section
variable (l1 : List S92) (l2 l3 : List Int) (l4 : List S95) (env : List Int) (dn : List Bool) (vs : List Int)
theorem rtD_neg (d : Nat) (i : Int) (h : rd vs i < 0) : rtD l1 l2 l3 l4 env dn vs d i = baseR l2 l3 env i (rd vs i) := by
 cases d with
 | zero => rw [rtD, if_pos h]
 | succ d => rw [rtD, if_pos h]
theorem rtD_mono : ∀ (d : Nat) (i : Int) (r : S80), rtD l1 l2 l3 l4 env dn vs d i = some r → rtD l1 l2 l3 l4 env dn vs (d + 1) i = some r
 | 0, i, r, h => by
  by_cases hn : rd vs i < 0
  ·rw [rtD_neg _ _ _ _ _ _ _ _ _ hn] at h ⊢; exact h
  ·rw [rtD, if_neg hn] at h; cases h
 | d + 1, i, r, h => by
  by_cases hn : rd vs i < 0
  ·rw [rtD_neg _ _ _ _ _ _ _ _ _ hn] at h ⊢; exact h
  ·rw [rtD, if_neg hn] at h ⊢
   by_cases hl : lkR l1 dn i (rd vs i) = true
   ·rw [if_pos hl] at h ⊢
    obtain ⟨q, hq, hr⟩ := Option.bind_eq_some_iff.1 h
    rw [rtD_mono d _ q hq]
    exact hr
   ·rw [if_neg hl] at h; cases h
theorem rtD_le (d e : Nat) (h : d ≤ e) (i : Int) (r : S80) (hr : rtD l1 l2 l3 l4 env dn vs d i = some r) : rtD l1 l2 l3 l4 env dn vs e i = some r := by
 induction h with
 | refl => exact hr
 | step _ ih => exact rtD_mono l1 l2 l3 l4 env dn vs _ i r ih
theorem rtD_via (d : Nat) (i : Int) (r : S80) (hv : -3 ≤ rd vs i) (h : rtD l1 l2 l3 l4 env dn vs d i = some r) : r.f0 = rd vs i := by
 by_cases hn : rd vs i < 0
 ·rw [rtD_neg _ _ _ _ _ _ _ _ _ hn] at h
  unfold baseR at h
  split at h
  ·obtain rfl := Option.some.inj h; show (-3 : Int) = _; omega
  split at h
  ·split at h
   ·obtain rfl := Option.some.inj h; show (-2 : Int) = _; omega
   ·cases h
  ·split at h
   ·split at h
    ·obtain rfl := Option.some.inj h; show (-1 : Int) = _; omega
    ·cases h
   ·cases h
 ·cases d with
  | zero => rw [rtD, if_neg hn] at h; cases h
  | succ d =>
   rw [rtD, if_neg hn] at h
   split at h
   ·obtain ⟨q, hq, hr⟩ := Option.bind_eq_some_iff.1 h
    unfold hopR at hr
    split at hr
    ·cases hr
    split at hr
    ·cases hr
    ·obtain rfl := Option.some.inj hr; rfl
   ·cases h
end
def fndV (v : Int) : List S80 → Option S80
 | [] => none
 | x :: r => match fndV v r with
  | some y => some y
  | none => if x.f0 = v then some x else none
theorem fndV_app (v : Int) (b : List S80) : ∀ a : List S80, fndV v (a ++ b) = match fndV v b with | some y => some y | none => fndV v a
 | [] => by
  rw [List.nil_append]
  cases fndV v b <;> rfl
 | x :: r => by
  rw [List.cons_append, fndV, fndV_app v b r, fndV]
  cases fndV v b <;> rfl
theorem fndV_none (v : Int) : ∀ a : List S80, (∀ x ∈ a, x.f0 ≠ v) → fndV v a = none
 | [], h => rfl
 | x :: r, h => by rw [fndV, fndV_none v r (fun y hy => h y (by simp [hy]))]; exact if_neg (h x (by simp))
def cand1 (l1 : List S92) (l4 : List S95) (rs : List S80) (a w : Int) : List S80 := addC l1 l4 rs a [] w
theorem addC_app (l1 : List S92) (l4 : List S95) (rs : List S80) (a : Int) (acc : List S80) (w : Int) : addC l1 l4 rs a acc w = acc ++ cand1 l1 l4 rs a w := by
 unfold cand1 addC
 split
 ·simp
 split
 ·simp
 cases impO a w l4 100 (rd_T80 rs w).f3 <;> simp
theorem addCs_fnd (l1 : List S92) (l4 : List S95) (rs : List S80) (a v : Int) : ∀ (ns : List Int) (acc : List S80), fndV v (ns.foldl (addC l1 l4 rs a) acc) = if v ∈ ns then (match fndV v (cand1 l1 l4 rs a v) with | some y => some y | none => fndV v acc) else fndV v acc
 | [], acc => by simp
 | w :: r, acc => by
  have hw : ∀ x ∈ cand1 l1 l4 rs a w, x.f0 = w := by
   intro x hx
   unfold cand1 addC at hx
   split at hx
   ·cases hx
   split at hx
   ·cases hx
   split at hx
   ·cases hx
   ·rw [List.nil_append, List.mem_singleton] at hx
    rw [hx]
  rw [List.foldl_cons, addCs_fnd l1 l4 rs a v r, addC_app, fndV_app]
  by_cases e : v = w
  ·subst e
   rw [if_pos (List.mem_cons_self ..)]
   by_cases hm : v ∈ r
   ·rw [if_pos hm]
    cases fndV v (cand1 l1 l4 rs a v) <;> rfl
   ·rw [if_neg hm]
  ·rw [fndV_none v (cand1 l1 l4 rs a w) (fun x hx h => e (by rw [← h, hw x hx]))]
   by_cases hm : v ∈ r
   ·rw [if_pos hm, if_pos (List.mem_cons_of_mem _ hm)]
   ·rw [if_neg hm, if_neg (by rw [List.mem_cons]; exact fun h => h.elim e hm)]
theorem nbL_iff (l1 : List S92) (a : Int) (dn : List Bool) (v : Int) : ∀ (d i : Nat) (acc : List Int), v ∈ nbL l1 a dn d i acc ↔ v ∈ acc ∨ (((i : Int) ≤ v ∧ v < (i : Int) + (d : Int)) ∧ lkR l1 dn a v = true)
 | 0, i, acc => by
  rw [nbL]
  exact ⟨.inl, fun h => h.elim id (fun h => by have := h.1; omega)⟩
 | d + 1, i, acc => by
  rw [nbL, nbL_iff l1 a dn v d (i + 1)]
  have hl : lkR l1 dn a (i : Int) = true ↔ (linkI l1 a (i : Int) ≥ 0 ∧ rdOf false dn (linkI l1 a (i : Int)) = false) := by
   unfold lkR; simp
  by_cases c1 : linkI l1 a (i : Int) ≥ 0
  ·rw [if_pos c1]
   by_cases c2 : rdOf false dn (linkI l1 a (i : Int)) = true
   ·rw [if_pos c2]
    constructor
    ·rintro (h | ⟨h, k⟩)
     ·exact .inl h
     ·exact .inr ⟨⟨by omega, by omega⟩, k⟩
    ·rintro (h | ⟨h, k⟩)
     ·exact .inl h
     ·by_cases e : v = (i : Int)
      ·subst e; exact absurd (hl.1 k).2 (by rw [c2]; decide)
      ·exact .inr ⟨⟨by omega, by omega⟩, k⟩
   ·rw [if_neg c2, List.mem_append, List.mem_singleton]
    constructor
    ·rintro ((h | h) | ⟨h, k⟩)
     ·exact .inl h
     ·subst h; exact .inr ⟨⟨by omega, by omega⟩, hl.2 ⟨c1, by simpa using c2⟩⟩
     ·exact .inr ⟨⟨by omega, by omega⟩, k⟩
    ·rintro (h | ⟨h, k⟩)
     ·exact .inl (.inl h)
     ·by_cases e : v = (i : Int)
      ·exact .inl (.inr e)
      ·exact .inr ⟨⟨by omega, by omega⟩, k⟩
  ·rw [if_neg c1]
   constructor
   ·rintro (h | ⟨h, k⟩)
    ·exact .inl h
    ·exact .inr ⟨⟨by omega, by omega⟩, k⟩
   ·rintro (h | ⟨h, k⟩)
    ·exact .inl h
    ·by_cases e : v = (i : Int)
     ·subst e; exact absurd (hl.1 k).1 c1
     ·exact .inr ⟨⟨by omega, by omega⟩, k⟩
theorem fnd_cnd (l0 : List ByteArray) (l1 : List S92) (l2 l3 : List Int) (l4 : List S95) (env : List Int) (dn : List Bool) (rs : List S80) (a v : Int) (hv : -3 < v) (hvn : v < (l0.length : Int)) :
  fndV v (cndL l0 l1 l2 l3 l4 env dn rs a) = if v < 0 then baseR l2 l3 env a v else if lkR l1 dn a v = true then (if thrB rs a (rs.length + 1) v = true then none else hopR l1 l4 a v (rd_T80 rs v)) else none := by
 unfold cndL
 rw [addCs_fnd]
 have hm := nbL_iff l1 a dn v l0.length 0 []
 have hown : ∀ x ∈ ownC l2 a, x.f0 = -2 := fun x hx => by
  unfold ownC at hx
  split at hx
  ·rw [List.mem_singleton.1 hx]
  ·cases hx
 by_cases hn : v < 0
 ·rw [if_pos hn, if_neg (fun h => by have := hm.1 h; simp at this; omega)]
  unfold baseR extC
  rw [if_neg (show ¬ v = -3 by omega)]
  by_cases e : v = -2
  ·subst e
   rw [if_pos rfl]
   have hext : fndV (-2) (if idxE l3 a ≥ 0 then (if rd env (idxE l3 a) > 0 then ownC l2 a ++ [⟨-1, 100, 2, rd env (idxE l3 a) == 2⟩] else ownC l2 a) else ownC l2 a) = fndV (-2) (ownC l2 a) := by
    split
    ·split
     ·rw [fndV_app, fndV_none _ _ (fun x hx => by rw [List.mem_singleton.1 hx]; exact (show (-1 : Int) ≠ -2 by decide))]
     ·rfl
    ·rfl
   rw [hext]
   unfold ownC
   split <;> rfl
  ·rw [if_neg e]
   have e1 : v = -1 := by omega
   subst e1
   have ho : fndV (-1) (ownC l2 a) = none := fndV_none _ _ (fun x hx => by rw [hown x hx]; decide)
   split
   ·split
    ·rw [fndV_app]; rfl
    ·exact ho
   ·exact ho
 ·rw [if_neg hn]
  have hb : fndV v (extC l3 env a (ownC l2 a)) = none := fndV_none _ _ (fun x hx => by
   unfold extC at hx
   split at hx
   ·split at hx
    ·rcases List.mem_append.1 hx with hx | hx
     ·rw [hown x hx]; omega
     ·rw [List.mem_singleton.1 hx]; show (-1 : Int) ≠ v; omega
    ·rw [hown x hx]; omega
   ·rw [hown x hx]; omega)
  rw [hb]
  by_cases hl : lkR l1 dn a v = true
  ·rw [if_pos hl, if_pos (hm.2 (.inr ⟨⟨by omega, by omega⟩, hl⟩))]
   unfold cand1 addC hopR
   by_cases c3 : (rd_T80 rs v).f0 = -3
   ·rw [if_pos c3, if_pos c3]
    by_cases ct : thrB rs a (rs.length + 1) v = true
    ·rw [if_pos ct]; rfl
    ·rw [if_neg ct]; rfl
   rw [if_neg c3, if_neg c3]
   by_cases ct : thrB rs a (rs.length + 1) v = true
   ·rw [if_pos ct, if_pos ct]; rfl
   rw [if_neg ct, if_neg ct]
   cases impO a v l4 100 (rd_T80 rs v).f3 with
   | none => rfl
   | some q =>
    show (match (match fndV v [] with | some y => some y | none => if v = v then some _ else none) with | some y => some y | none => none) = _
    rw [show fndV v [] = none from rfl, if_pos rfl]
  ·rw [if_neg hl, if_neg (fun h => by rcases hm.1 h with h | h; cases h; exact hl h.2)]
theorem rd80_set (x : List S80) (i : Nat) (a : S80) (j : Int) (hi : i < x.length) (hj : 0 ≤ j) : rd_T80 (x.set i a) j = if j = (i : Int) then a else rd_T80 x j := by
 obtain ⟨m, rfl⟩ := Int.eq_ofNat_of_zero_le hj
 by_cases e : m = i
 ·subst e; rw [if_pos rfl]; exact rd_set80 hi
 ·rw [if_neg (by omega)]; exact rd_setne80 e
theorem rdB_set (x : List Bool) (i : Nat) (j : Int) (hi : i < x.length) (hj : 0 ≤ j) : rdOf false (x.set i true) j = if j = (i : Int) then true else rdOf false x j := by
 obtain ⟨m, rfl⟩ := Int.eq_ofNat_of_zero_le hj
 unfold rdOf
 rw [Int.toNat_natCast, List.getD_eq_getElem?_getD, List.getD_eq_getElem?_getD]
 by_cases e : m = i
 ·subst e; rw [if_pos rfl, List.getElem?_set_self hi]; rfl
 ·rw [if_neg (by omega), List.getElem?_set_ne (by omega)]
def cntB : List Bool → Nat
 | [] => 0
 | b :: r => (if b = true then 1 else 0) + cntB r
theorem cntB_le : ∀ l : List Bool, cntB l ≤ l.length
 | [] => Nat.le_refl _
 | b :: r => by
  have := cntB_le r
  rw [cntB, List.length_cons]
  split <;> omega
theorem cntB_set : ∀ (l : List Bool) (i : Nat), i < l.length → l.getD i false = false → cntB (l.set i true) = cntB l + 1
 | [], i, h, _ => absurd h (Nat.not_lt_zero _)
 | b :: r, 0, h, hb => by
  have : b = false := hb
  subst this
  rw [List.set_cons_zero, cntB, cntB]
  simp
  omega
 | b :: r, i + 1, h, hb => by
  rw [List.set_cons_succ, cntB, cntB, cntB_set r i (by simpa using h) (by simpa using hb)]
  omega
theorem thrB_mono (l : List S80) (tt : Int) : ∀ (d : Nat) (k : Int), thrB l tt d k = false → thrB l tt (d + 1) k = false
 | 0, k, h => by cases h
 | d + 1, k, h => by
  rw [thrB] at h ⊢
  by_cases h1 : k = tt
  ·rw [if_pos h1] at h; cases h
  rw [if_neg h1] at h ⊢
  by_cases h2 : k < 0
  ·rw [if_pos h2]
  rw [if_neg h2] at h ⊢
  by_cases h3 : (rd_T80 l k).f0 < 0
  ·rw [if_pos h3]
  rw [if_neg h3] at h ⊢
  exact thrB_mono l tt d _ h
theorem thrB_le (l : List S80) (tt : Int) (d e : Nat) (h : d ≤ e) (k : Int) (hk : thrB l tt d k = false) : thrB l tt e k = false := by
 induction h with
 | refl => exact hk
 | step _ ih => exact thrB_mono l tt _ k ih
section
variable (l0 : List ByteArray) (l1 : List S92) (l2 l3 : List Int) (l4 : List S95) (l5 : List S97) (env : List Int) (dn : List Bool) (vs : List Int)
def turn (i : Nat) (s : List S80 × List Bool) : Option (List S80 × List Bool) :=
 if rdOf false s.2 (i : Int) = true ∨ (rd vs (i : Int) ≥ 0 ∧ rdOf false s.2 (rd vs (i : Int)) = false) then some s else
 if rd vs (i : Int) = -3 then some (s.1, s.2.set i true) else
 match fndV (rd vs (i : Int)) (cndL l0 l1 l2 l3 l4 env dn s.1 (i : Int)) with
 | none => none
 | some x => some (s.1.set i x, s.2.set i true)
def turns : Nat → Nat → List S80 × List Bool → Option (List S80 × List Bool)
 | 0, _, s => some s
 | d + 1, i, s => (turn l0 l1 l2 l3 l4 env dn vs i s).bind (turns d (i + 1))
def rnds : Nat → List S80 × List Bool → Option (List S80 × List Bool)
 | 0, s => some s
 | d + 1, s => (turns l0 l1 l2 l3 l4 env dn vs l0.length 0 s).bind (rnds d)
def InvR (s : List S80 × List Bool) : Prop :=
 s.1.length = l0.length ∧ s.2.length = l0.length ∧ (∀ x ∈ s.1, x.f0 < (l0.length : Int)) ∧
 (∀ j : Int, 0 ≤ j → j < (l0.length : Int) → rdOf false s.2 j = true → rtD l1 l2 l3 l4 env dn vs (cntB s.2 - 1) j = some (rd_T80 s.1 j) ∧ (rd vs j ≥ 0 → rdOf false s.2 (rd vs j) = true) ∧ 1 ≤ cntB s.2) ∧
 (∀ j : Int, 0 ≤ j → j < (l0.length : Int) → rdOf false s.2 j = false → rd_T80 s.1 j = noR)
variable (hvs : ∀ j : Int, 0 ≤ j → j < (l0.length : Int) → -3 ≤ rd vs j ∧ rd vs j < (l0.length : Int))
include hvs
theorem way_ends (s : List S80 × List Bool) (h : InvR l0 l1 l2 l3 l4 env dn vs s) (i : Int) (hi : rdOf false s.2 i = false) : ∀ (d : Nat) (k : Int), 0 ≤ k → k < (l0.length : Int) → rdOf false s.2 k = true → rtD l1 l2 l3 l4 env dn vs d k = some (rd_T80 s.1 k) → thrB s.1 i (d + 1) k = false := by
 intro d
 induction d with
 | zero =>
  intro k k0 k1 hk hr
  obtain ⟨v0, v1⟩ := hvs k k0 k1
  have hf := rtD_via l1 l2 l3 l4 env dn vs 0 k _ v0 hr
  have hneg : rd vs k < 0 := by
   by_cases hn : rd vs k < 0
   ·exact hn
   ·rw [rtD, if_neg hn] at hr; cases hr
  rw [thrB, if_neg (fun e => by rw [e, hi] at hk; cases hk), if_neg (by omega), if_pos (by omega)]
 | succ d ih =>
  intro k k0 k1 hk hr
  obtain ⟨v0, v1⟩ := hvs k k0 k1
  have hf := rtD_via l1 l2 l3 l4 env dn vs (d + 1) k _ v0 hr
  rw [thrB, if_neg (fun e => by rw [e, hi] at hk; cases hk), if_neg (by omega)]
  by_cases hn : (rd_T80 s.1 k).f0 < 0
  ·rw [if_pos hn]
  rw [if_neg hn, hf]
  have hvn : ¬ rd vs k < 0 := by omega
  have hdv := (h.2.2.2.1 k k0 k1 hk).2.1 (by omega)
  rw [rtD, if_neg hvn] at hr
  split at hr
  ·obtain ⟨q, hq, -⟩ := Option.bind_eq_some_iff.1 hr
   have hq2 := (h.2.2.2.1 (rd vs k) (by omega) v1 hdv).1
   have e : q = rd_T80 s.1 (rd vs k) := by
    have a1 := rtD_le l1 l2 l3 l4 env dn vs d (max d (cntB s.2 - 1)) (Nat.le_max_left _ _) _ _ hq
    have a2 := rtD_le l1 l2 l3 l4 env dn vs (cntB s.2 - 1) (max d (cntB s.2 - 1)) (Nat.le_max_right _ _) _ _ hq2
    exact Option.some.inj (a1.symm.trans a2)
   rw [e] at hq
   exact ih (rd vs k) (by omega) v1 hdv hq
  ·cases hr
theorem turn_ok (i : Nat) (hi : i < l0.length) (s : List S80 × List Bool) (h : InvR l0 l1 l2 l3 l4 env dn vs s) :
  (∃ s', turn l0 l1 l2 l3 l4 env dn vs i s = some s' ∧ InvR l0 l1 l2 l3 l4 env dn vs s' ∧ (cntB s'.2 = cntB s.2 + 1 ∨ (s' = s ∧ (rdOf false s.2 (i : Int) = true ∨ (rd vs (i : Int) ≥ 0 ∧ rdOf false s.2 (rd vs (i : Int)) = false))))) ∨
  (turn l0 l1 l2 l3 l4 env dn vs i s = none ∧ rtD l1 l2 l3 l4 env dn vs l0.length (i : Int) = none) := by
 obtain ⟨k1, k2, k3, k4, k5⟩ := h
 have h : InvR l0 l1 l2 l3 l4 env dn vs s := ⟨k1, k2, k3, k4, k5⟩
 obtain ⟨v0, v1⟩ := hvs (i : Int) (by omega) (by omega)
 unfold turn
 by_cases hb : rdOf false s.2 (i : Int) = true ∨ (rd vs (i : Int) ≥ 0 ∧ rdOf false s.2 (rd vs (i : Int)) = false)
 ·rw [if_pos hb]
  exact .inl ⟨s, rfl, h, .inr ⟨rfl, hb⟩⟩
 rw [if_neg hb]
 have hnd : rdOf false s.2 (i : Int) = false := by
  cases hc : rdOf false s.2 (i : Int) with
  | false => rfl
  | true => exact absurd (.inl hc) hb
 have hvd : rd vs (i : Int) ≥ 0 → rdOf false s.2 (rd vs (i : Int)) = true := fun hv => by
  cases hc : rdOf false s.2 (rd vs (i : Int)) with
  | true => rfl
  | false => exact absurd (.inr ⟨hv, hc⟩) hb
 have hcnt : cntB (s.2.set i true) = cntB s.2 + 1 := cntB_set s.2 i (by omega) (by unfold rdOf at hnd; rwa [Int.toNat_natCast] at hnd)
 have hcl : cntB (s.2.set i true) ≤ l0.length := by have := cntB_le (s.2.set i true); rw [List.length_set] at this; omega
 -- a new router with the recursion's route
 have key : ∀ x : S80, x.f0 < (l0.length : Int) → rtD l1 l2 l3 l4 env dn vs (cntB s.2) (i : Int) = some x → InvR l0 l1 l2 l3 l4 env dn vs (s.1.set i x, s.2.set i true) := fun x hx hr => by
  refine ⟨by rw [List.length_set]; exact k1, by rw [List.length_set]; exact k2, ?_, ?_, ?_⟩
  ·intro y hy
   rcases List.mem_or_eq_of_mem_set hy with hy | hy
   ·exact k3 y hy
   ·rw [hy]; exact hx
  ·intro j j0 j1 hj
   show rtD l1 l2 l3 l4 env dn vs (cntB (s.2.set i true) - 1) j = some (rd_T80 (s.1.set i x) j) ∧ (rd vs j ≥ 0 → rdOf false (s.2.set i true) (rd vs j) = true) ∧ 1 ≤ cntB (s.2.set i true)
   have hj2 : rdOf false (s.2.set i true) j = true := hj
   rw [rdB_set _ _ _ (by omega) j0] at hj2
   rw [hcnt, Nat.add_sub_cancel, rd80_set _ _ _ _ (by omega) j0]
   by_cases e : j = (i : Int)
   ·subst e
    rw [if_pos rfl]
    refine ⟨hr, fun hv => ?_, by omega⟩
    rw [rdB_set _ _ _ (by omega) hv]
    split
    ·rfl
    ·exact hvd hv
   ·rw [if_neg e] at hj2 ⊢
    obtain ⟨q1, q2, q3⟩ := k4 j j0 j1 hj2
    refine ⟨rtD_le l1 l2 l3 l4 env dn vs _ _ (by omega) _ _ q1, fun hv => ?_, by omega⟩
    rw [rdB_set _ _ _ (by omega) hv]
    split
    ·rfl
    ·exact q2 hv
  ·intro j j0 j1 hj
   have hj2 : rdOf false (s.2.set i true) j = false := hj
   rw [rdB_set _ _ _ (by omega) j0] at hj2
   show rd_T80 (s.1.set i x) j = noR
   rw [rd80_set _ _ _ _ (by omega) j0]
   by_cases e : j = (i : Int)
   ·rw [if_pos e] at hj2; cases hj2
   ·rw [if_neg e] at hj2 ⊢; exact k5 j j0 j1 hj2
 by_cases h3 : rd vs (i : Int) = -3
 ·rw [if_pos h3]
  refine .inl ⟨_, rfl, ?_, .inl hcnt⟩
  have := key noR (by show (-3 : Int) < _; omega) (by rw [rtD_neg _ _ _ _ _ _ _ _ _ (by omega)]; unfold baseR; rw [if_pos h3])
  have e : s.1.set i noR = s.1 := by
   have hh := k5 (i : Int) (by omega) (by omega) hnd
   unfold rd_T80 at hh
   rw [Int.toNat_natCast, List.getD_eq_getElem?_getD, List.getElem?_eq_getElem (by omega)] at hh
   have hh2 : s.1[i] = noR := hh
   rw [← hh2]
   exact List.set_getElem_self (by omega)
  rwa [e] at this
 rw [if_neg h3, fnd_cnd l0 l1 l2 l3 l4 env dn s.1 (i : Int) (rd vs (i : Int)) (by omega) v1]
 by_cases hn : rd vs (i : Int) < 0
 ·rw [if_pos hn]
  cases hbs : baseR l2 l3 env (i : Int) (rd vs (i : Int)) with
  | none => exact .inr ⟨rfl, by rw [rtD_neg _ _ _ _ _ _ _ _ _ hn, hbs]⟩
  | some x =>
   have hr : rtD l1 l2 l3 l4 env dn vs (cntB s.2) (i : Int) = some x := by rw [rtD_neg _ _ _ _ _ _ _ _ _ hn, hbs]
   exact .inl ⟨_, rfl, key x (by rw [rtD_via l1 l2 l3 l4 env dn vs _ _ _ v0 hr]; omega) hr, .inl hcnt⟩
 rw [if_neg hn]
 obtain ⟨q1, q2, q3⟩ := k4 (rd vs (i : Int)) (by omega) v1 (hvd (by omega))
 have hth : thrB s.1 (i : Int) (s.1.length + 1) (rd vs (i : Int)) = false := thrB_le _ _ (cntB s.2 - 1 + 1) _ (by omega) _ (way_ends l0 l1 l2 l3 l4 env dn vs hvs s h (i : Int) hnd _ _ (by omega) v1 (hvd (by omega)) q1)
 rw [hth, if_neg Bool.false_ne_true]
 have hrec : ∀ e : Nat, cntB s.2 - 1 ≤ e → rtD l1 l2 l3 l4 env dn vs (e + 1) (i : Int) = if lkR l1 dn (i : Int) (rd vs (i : Int)) = true then hopR l1 l4 (i : Int) (rd vs (i : Int)) (rd_T80 s.1 (rd vs (i : Int))) else none := fun e he => by
  rw [rtD, if_neg hn, rtD_le l1 l2 l3 l4 env dn vs _ e he _ _ q1]
  rfl
 cases hx : (if lkR l1 dn (i : Int) (rd vs (i : Int)) = true then hopR l1 l4 (i : Int) (rd vs (i : Int)) (rd_T80 s.1 (rd vs (i : Int))) else none) with
 | none =>
  refine .inr ⟨rfl, ?_⟩
  have := hrec (l0.length - 1) (by omega)
  rw [show l0.length - 1 + 1 = l0.length by omega] at this
  rw [this, hx]
 | some x =>
  have hr : rtD l1 l2 l3 l4 env dn vs (cntB s.2) (i : Int) = some x := by
   have := hrec (cntB s.2 - 1) (Nat.le_refl _)
   rw [show cntB s.2 - 1 + 1 = cntB s.2 by omega] at this
   rw [this, hx]
  exact .inl ⟨_, rfl, key x (by rw [rtD_via l1 l2 l3 l4 env dn vs _ _ _ v0 hr]; omega) hr, .inl hcnt⟩
theorem turns_ok : ∀ (d i : Nat) (s : List S80 × List Bool), i + d = l0.length → InvR l0 l1 l2 l3 l4 env dn vs s →
  (∃ s', turns l0 l1 l2 l3 l4 env dn vs d i s = some s' ∧ InvR l0 l1 l2 l3 l4 env dn vs s' ∧ (cntB s.2 < cntB s'.2 ∨ (s' = s ∧ ∀ j : Int, (i : Int) ≤ j → j < (l0.length : Int) → (rdOf false s.2 j = true ∨ (rd vs j ≥ 0 ∧ rdOf false s.2 (rd vs j) = false))))) ∨
  (turns l0 l1 l2 l3 l4 env dn vs d i s = none ∧ ∃ j : Nat, j < l0.length ∧ rtD l1 l2 l3 l4 env dn vs l0.length (j : Int) = none) := by
 intro d
 induction d with
 | zero => intro i s hi h; exact .inl ⟨s, rfl, h, .inr ⟨rfl, fun j h1 h2 => by omega⟩⟩
 | succ d ih =>
  intro i s hi h
  rw [turns]
  rcases turn_ok l0 l1 l2 l3 l4 env dn vs hvs i (by omega) s h with ⟨s1, e1, h1, hc⟩ | ⟨e1, h1⟩
  ·rw [e1]
   rcases ih (i + 1) s1 (by omega) h1 with ⟨s2, e2, h2, hc2⟩ | ⟨e2, h2⟩
   ·refine .inl ⟨s2, e2, h2, ?_⟩
    rcases hc with hc | ⟨rfl, hc⟩
    ·refine .inl ?_
     rcases hc2 with hc2 | ⟨rfl, -⟩ <;> omega
    ·rcases hc2 with hc2 | ⟨rfl, hc2⟩
     ·exact .inl hc2
     ·refine .inr ⟨rfl, fun j j0 j1 => ?_⟩
      by_cases e : j = (i : Int)
      ·subst e; exact hc
      ·exact hc2 j (by omega) j1
   ·exact .inr ⟨e2, h2⟩
  ·rw [e1]
   exact .inr ⟨rfl, i, by omega, h1⟩
def stuck (s : List S80 × List Bool) : Prop := ∀ j : Int, 0 ≤ j → j < (l0.length : Int) → (rdOf false s.2 j = true ∨ (rd vs j ≥ 0 ∧ rdOf false s.2 (rd vs j) = false))
theorem rnds_ok : ∀ (d : Nat) (s : List S80 × List Bool), InvR l0 l1 l2 l3 l4 env dn vs s →
  (∃ s', rnds l0 l1 l2 l3 l4 env dn vs d s = some s' ∧ InvR l0 l1 l2 l3 l4 env dn vs s' ∧ (cntB s.2 + d ≤ cntB s'.2 ∨ stuck l0 vs s')) ∨
  (rnds l0 l1 l2 l3 l4 env dn vs d s = none ∧ ∃ j : Nat, j < l0.length ∧ rtD l1 l2 l3 l4 env dn vs l0.length (j : Int) = none) := by
 intro d
 induction d with
 | zero => intro s h; exact .inl ⟨s, rfl, h, .inl (Nat.le_refl _)⟩
 | succ d ih =>
  intro s h
  rw [rnds]
  rcases turns_ok l0 l1 l2 l3 l4 env dn vs hvs l0.length 0 s (by omega) h with ⟨s1, e1, h1, hc⟩ | ⟨e1, h1⟩
  ·rw [e1]
   rcases ih s1 h1 with ⟨s2, e2, h2, hc2⟩ | ⟨e2, h2⟩
   ·refine .inl ⟨s2, e2, h2, ?_⟩
    rcases hc with hc | ⟨rfl, hc⟩
    ·rcases hc2 with hc2 | hc2
     ·exact .inl (by omega)
     ·exact .inr hc2
    · -- the round changed nothing: no round does
     have hs : stuck l0 vs s1 := fun j j0 j1 => hc j (by omega) j1
     have same : ∀ d : Nat, ∀ t, rnds l0 l1 l2 l3 l4 env dn vs d s1 = some t → t = s1 := by
      intro d
      induction d with
      | zero => intro t ht; exact (Option.some.inj ht).symm
      | succ d ihd =>
       intro t ht
       rw [rnds, e1] at ht
       exact ihd t ht
     rw [same d s2 e2]
     exact .inr hs
   ·exact .inr ⟨e2, h2⟩
  ·rw [e1]
   exact .inr ⟨rfl, h1⟩
theorem stuck_none (s : List S80 × List Bool) (hs : stuck l0 vs s) : ∀ (d : Nat) (j : Int), 0 ≤ j → j < (l0.length : Int) → rdOf false s.2 j = false → rtD l1 l2 l3 l4 env dn vs d j = none := by
 intro d
 induction d with
 | zero =>
  intro j j0 j1 hj
  rcases hs j j0 j1 with h | ⟨h, -⟩
  ·rw [h] at hj; cases hj
  ·rw [rtD, if_neg (by omega)]
 | succ d ih =>
  intro j j0 j1 hj
  rcases hs j j0 j1 with h | ⟨h, h2⟩
  ·rw [h] at hj; cases hj
  ·rw [rtD, if_neg (by omega), ih _ h (hvs j j0 j1).2 h2]
   split <;> rfl
end
section
variable (l0 : List ByteArray) (l1 : List S92) (l2 l3 : List Int) (l4 : List S95) (l5 : List S97) (env : List Int) (dn : List Bool) (vs : List Int)
 (h0 : l0.length ≤ 4) (h1 : l1.length ≤ 6) (h2 : l2.length ≤ 140737488351232) (h3 : l3.length ≤ 2) (hd : dn.length = l1.length) (he : env.length = l3.length) (hl : vs.length = l0.length)
 (hvs : ∀ j : Int, 0 ≤ j → j < (l0.length : Int) → -3 ≤ rd vs j ∧ rd vs j < (l0.length : Int))
theorem fndV_some {v : Int} {r : List S80} {y : S80} (x : S80) (h : fndV v r = some y) : fndV v (x :: r) = some y := by rw [fndV, h]
theorem fndV_hit {v : Int} {r : List S80} {x : S80} (h : fndV v r = none) (e : x.f0 = v) : fndV v (x :: r) = some x := by rw [fndV, h]; exact if_pos e
theorem fndV_miss {v : Int} {r : List S80} {x : S80} (h : fndV v r = none) (e : ¬ x.f0 = v) : fndV v (x :: r) = none := by rw [fndV, h]; exact if_neg e
theorem l3_ev (dl : List Bool) (rr : Int) (i : Nat) (v : Int) (cs : List S80) (hcs : cs.length ≤ 100) : ∀ (d idx : Nat) (o : List S80) (b : Bool), idx + d = cs.length → i < o.length →
  (∀ x, fndV v (cs.drop idx) = some x → ∀ res, Ev (fun k => spec_l07Of.l2 k env dn vs (o.set i x) dl rr (wrap64 ((i : Int) + 1)) l0 l1 l2 l3 l4 l5) res → Ev (fun k => spec_l07Of.l3 k env dn vs o dl rr (i : Int) v b cs (idx : Int) l0 l1 l2 l3 l4 l5) res) ∧
  (fndV v (cs.drop idx) = none → b = true → ∀ res, Ev (fun k => spec_l07Of.l2 k env dn vs o dl rr (wrap64 ((i : Int) + 1)) l0 l1 l2 l3 l4 l5) res → Ev (fun k => spec_l07Of.l3 k env dn vs o dl rr (i : Int) v b cs (idx : Int) l0 l1 l2 l3 l4 l5) res) ∧
  (fndV v (cs.drop idx) = none → b = false → ∃ o', Ev (fun k => spec_l07Of.l3 k env dn vs o dl rr (i : Int) v b cs (idx : Int) l0 l1 l2 l3 l4 l5) (o', false)) := by
 intro d
 induction d with
 | zero =>
  intro idx o b hi ho
  rw [List.drop_of_length_le (by omega)]
  refine ⟨fun x h => (by cases h), fun _ hb res hk => ?_, fun _ hb => ⟨o, ?_⟩⟩
  ·exact stp (fun k => spec_l07Of.l3.eq_2 ..) (ifn (by omega) (ifp hb hk))
  ·exact stp (fun k => spec_l07Of.l3.eq_2 ..) (ifn (by omega) (ifn (by rw [hb]; decide) (sm _)))
 | succ d ih =>
  intro idx o b hi ho
  have hlt : idx < cs.length := by omega
  have hx : rd_T80 cs (idx : Int) = cs[idx] := getD_some (List.getElem?_eq_getElem hlt)
  have hu : wrap64 ((idx : Int) + 1) = ((idx + 1 : Nat) : Int) := by rw [up (i := (idx : Int)) (by omega) (by omega : (idx : Int) < (cs.length : Int)) (by omega)]; omega
  rw [List.drop_eq_getElem_cons hlt]
  generalize hy : cs[idx] = x at hx
  by_cases e : x.f0 = v
  ·obtain ⟨a1, a2, a3⟩ := ih (idx + 1) (o.set i x) true (by omega) (by rw [List.length_set]; exact ho)
   have step : ∀ res, Ev (fun k => spec_l07Of.l3 k env dn vs (o.set i x) dl rr (i : Int) v true cs ((idx + 1 : Nat) : Int) l0 l1 l2 l3 l4 l5) res → Ev (fun k => spec_l07Of.l3 k env dn vs o dl rr (i : Int) v b cs (idx : Int) l0 l1 l2 l3 l4 l5) res := fun res hr => by
    refine stp (fun k => spec_l07Of.l3.eq_2 ..) (ifp (by omega) (ifp (by omega) ?_))
    rw [hx, hu, Int.toNat_natCast]
    exact ifp e (ifp (by omega) (ifp (by omega) hr))
   cases hf : fndV v (cs.drop (idx + 1)) with
   | some y =>
    rw [fndV_some x hf]
    refine ⟨fun z hz res hk => ?_, fun h => (by cases h), fun h => (by cases h)⟩
    obtain rfl := Option.some.inj hz
    exact step res (a1 y hf res (by rw [List.set_set]; exact hk))
   | none =>
    rw [fndV_hit hf e]
    refine ⟨fun z hz res hk => ?_, fun h => (by cases h), fun h => (by cases h)⟩
    obtain rfl := Option.some.inj hz
    exact step res (a2 hf rfl res hk)
  ·obtain ⟨a1, a2, a3⟩ := ih (idx + 1) o b (by omega) ho
   have step : ∀ res, Ev (fun k => spec_l07Of.l3 k env dn vs o dl rr (i : Int) v b cs ((idx + 1 : Nat) : Int) l0 l1 l2 l3 l4 l5) res → Ev (fun k => spec_l07Of.l3 k env dn vs o dl rr (i : Int) v b cs (idx : Int) l0 l1 l2 l3 l4 l5) res := fun res hr => by
    refine stp (fun k => spec_l07Of.l3.eq_2 ..) (ifp (by omega) (ifp (by omega) ?_))
    rw [hx, hu]
    exact ifn e hr
   cases hf : fndV v (cs.drop (idx + 1)) with
   | some y =>
    rw [fndV_some x hf]
    refine ⟨fun z hz res hk => ?_, fun h => (by cases h), fun h => (by cases h)⟩
    obtain rfl := Option.some.inj hz
    exact step res (a1 y hf res hk)
   | none =>
    rw [fndV_miss hf e]
    refine ⟨fun z hz => (by cases hz), fun _ hb res hk => step res (a2 hf hb res hk), fun _ hb => ?_⟩
    obtain ⟨o', ho'⟩ := a3 hf hb
    exact ⟨o', step _ ho'⟩
theorem l4_ev (o : List S80) (dl : List Bool) (hdl : dl.length ≤ 100) : Ev (fun k => spec_l07Of.l4 k o dl 0) (o, dl.all id) := by
 have key : ∀ (d i : Nat), i + d = dl.length → Ev (fun k => spec_l07Of.l4 k o dl (i : Int)) (o, (dl.drop i).all id) := by
  intro d
  induction d with
  | zero => intro i hi; rw [List.drop_of_length_le (by omega)]; exact stp (fun k => spec_l07Of.l4.eq_2 ..) (ifn (by omega) (sm _))
  | succ d ih =>
   intro i hi
   have hlt : i < dl.length := by omega
   have hx : rdOf false dl (i : Int) = dl[i] := getD_some (List.getElem?_eq_getElem hlt)
   have hnx := ih (i + 1) (by omega)
   rw [show ((i + 1 : Nat) : Int) = (i : Int) + 1 by omega] at hnx
   refine stp (fun k => spec_l07Of.l4.eq_2 ..) (ifp (by omega) (ifp (by omega) ?_))
   rw [hx, up (by omega) (by omega : (i : Int) < (dl.length : Int)) (by omega), List.drop_eq_getElem_cons hlt, List.all_cons]
   cases dl[i] with
   | true => exact ifp rfl hnx
   | false => exact ifn Bool.false_ne_true (sm _)
 have := key dl.length 0 (by omega)
 rwa [List.drop_zero] at this
include h0 h1 h2 h3 hd he hl hvs
theorem turn_ev (rr : Int) (i : Nat) (hi : i < l0.length) (s : List S80 × List Bool) (h : InvR l0 l1 l2 l3 l4 env dn vs s) :
  (∀ s', turn l0 l1 l2 l3 l4 env dn vs i s = some s' → ∀ res, Ev (fun k => spec_l07Of.l2 k env dn vs s'.1 s'.2 rr (wrap64 ((i : Int) + 1)) l0 l1 l2 l3 l4 l5) res → Ev (fun k => spec_l07Of.l2 k env dn vs s.1 s.2 rr (i : Int) l0 l1 l2 l3 l4 l5) res) ∧
  (turn l0 l1 l2 l3 l4 env dn vs i s = none → ∃ o, Ev (fun k => spec_l07Of.l2 k env dn vs s.1 s.2 rr (i : Int) l0 l1 l2 l3 l4 l5) (o, false)) := by
 obtain ⟨k1, k2, k3, k4, k5⟩ := h
 obtain ⟨v0, v1⟩ := hvs (i : Int) (by omega) (by omega)
 -- the way to j3, with what blocks
 have toj : ∀ (B : Bool) res, (B = true ↔ (rdOf false s.2 (i : Int) = true ∨ (rd vs (i : Int) ≥ 0 ∧ rdOf false s.2 (rd vs (i : Int)) = false))) → Ev (fun k => spec_l07Of.j3 k env dn vs s.1 s.2 rr (i : Int) (rd vs (i : Int)) B l0 l1 l2 l3 l4 l5) res → Ev (fun k => spec_l07Of.l2 k env dn vs s.1 s.2 rr (i : Int) l0 l1 l2 l3 l4 l5) res := fun B res hB hr => by
  refine stp (fun k => spec_l07Of.l2.eq_2 ..) (ifp (by omega) (ifp (by omega) (ifp (by omega) ?_)))
  by_cases c1 : rdOf false s.2 (i : Int) = true
  ·rw [hB.2 (.inl c1)] at hr
   exact ifp c1 hr
  refine ifn c1 ?_
  by_cases c2 : rd vs (i : Int) ≥ 0
  ·refine ifp c2 (ifp c2 (ifp (by omega) ?_))
   cases c3 : rdOf false s.2 (rd vs (i : Int)) with
   | false => rw [hB.2 (.inr ⟨c2, c3⟩)] at hr; exact hr
   | true =>
    have : B = false := by
     cases B with
     | false => rfl
     | true =>
      rcases hB.1 rfl with q | q
      ·exact absurd q c1
      ·rw [c3] at q; cases q.2
    rw [this] at hr
    exact hr
  ·have : B = false := by
    cases B with
    | false => rfl
    | true =>
     rcases hB.1 rfl with q | q
     ·exact absurd q c1
     ·exact absurd q.1 c2
   rw [this] at hr
   exact ifn c2 hr
 unfold turn
 by_cases hb : rdOf false s.2 (i : Int) = true ∨ (rd vs (i : Int) ≥ 0 ∧ rdOf false s.2 (rd vs (i : Int)) = false)
 ·rw [if_pos hb]
  refine ⟨fun s' hs' res hr => ?_, fun h => (by cases h)⟩
  obtain rfl := Option.some.inj hs'
  exact toj true res ⟨fun _ => hb, fun _ => rfl⟩ (stp (fun k => spec_l07Of.j3.eq_2 ..) (ifp rfl hr))
 rw [if_neg hb]
 have go : ∀ res, Ev (fun k => if rd vs (i : Int) = (-3) then (spec_l07Of.l2 k env dn vs s.1 (s.2.set i true) rr (wrap64 ((i : Int) + 1)) l0 l1 l2 l3 l4 l5) else ((spec_l07Candidates.f k l0 l1 l2 l3 l4 l5 (i : Int) env dn s.1).bind fun t => (spec_l07Of.l3 k env dn vs s.1 (s.2.set i true) rr (i : Int) (rd vs (i : Int)) false t 0 l0 l1 l2 l3 l4 l5))) res → Ev (fun k => spec_l07Of.l2 k env dn vs s.1 s.2 rr (i : Int) l0 l1 l2 l3 l4 l5) res := fun res hr => by
  refine toj false res ⟨fun h => (by cases h), fun h => absurd h hb⟩ (stp (fun k => spec_l07Of.j3.eq_2 ..) (ifn Bool.false_ne_true (ifp (by omega) (ifp (by omega) (bnd0 rfl ?_)))))
  rw [Int.toNat_natCast]
  exact hr
 by_cases h3' : rd vs (i : Int) = -3
 ·rw [if_pos h3']
  refine ⟨fun s' hs' res hr => ?_, fun h => (by cases h)⟩
  obtain rfl := Option.some.inj hs'
  exact go res (ifp h3' hr)
 rw [if_neg h3']
 have hc := scand_is l0 l1 l2 l3 l4 l5 env dn s.1 (i : Int) h0 h1 h2 h3 hd he k1 (fun x hx => by rw [k1]; exact k3 x hx)
 have hcl := (cnd_ok l0 l1 l2 l3 l4 env dn s.1 (i : Int)).1
 obtain ⟨a1, a2, a3⟩ := l3_ev l0 l1 l2 l3 l4 l5 env dn vs (s.2.set i true) rr i (rd vs (i : Int)) (cndL l0 l1 l2 l3 l4 env dn s.1 (i : Int)) (by omega) _ 0 s.1 false (Nat.zero_add _) (by omega)
 rw [List.drop_zero] at a1 a2 a3
 cases hf : fndV (rd vs (i : Int)) (cndL l0 l1 l2 l3 l4 env dn s.1 (i : Int)) with
 | some x =>
  refine ⟨fun s' hs' res hr => ?_, fun h => (by cases h)⟩
  obtain rfl := Option.some.inj hs'
  exact go res (ifn h3' (bnd hc (a1 x hf res hr)))
 | none =>
  refine ⟨fun s' hs' => (by cases hs'), fun _ => ?_⟩
  obtain ⟨o, ho⟩ := a3 hf rfl
  exact ⟨o, go _ (ifn h3' (bnd hc ho))⟩
theorem turns_ev (rr : Int) : ∀ (d i : Nat) (s : List S80 × List Bool), i + d = l0.length → InvR l0 l1 l2 l3 l4 env dn vs s →
  (∀ s', turns l0 l1 l2 l3 l4 env dn vs d i s = some s' → ∀ res, Ev (fun k => spec_l07Of.l1 k env dn vs s'.1 s'.2 (wrap64 (rr + 1)) l0 l1 l2 l3 l4 l5) res → Ev (fun k => spec_l07Of.l2 k env dn vs s.1 s.2 rr (i : Int) l0 l1 l2 l3 l4 l5) res) ∧
  (turns l0 l1 l2 l3 l4 env dn vs d i s = none → ∃ o, Ev (fun k => spec_l07Of.l2 k env dn vs s.1 s.2 rr (i : Int) l0 l1 l2 l3 l4 l5) (o, false)) := by
 intro d
 induction d with
 | zero =>
  intro i s hi h
  refine ⟨fun s' hs' res hr => ?_, fun h => (by cases h)⟩
  obtain rfl := Option.some.inj hs'
  exact stp (fun k => spec_l07Of.l2.eq_2 ..) (ifn (by omega) hr)
 | succ d ih =>
  intro i s hi h
  have hu : wrap64 ((i : Int) + 1) = ((i + 1 : Nat) : Int) := by rw [up (i := (i : Int)) (by omega) (by omega : (i : Int) < (l0.length : Int)) (by omega)]; omega
  obtain ⟨t1, t2⟩ := turn_ev l0 l1 l2 l3 l4 l5 env dn vs h0 h1 h2 h3 hd he hl hvs rr i (by omega) s h
  rw [hu] at t1
  rw [turns]
  rcases turn_ok l0 l1 l2 l3 l4 env dn vs hvs i (by omega) s h with ⟨s1, e1, i1, -⟩ | ⟨e1, -⟩
  ·rw [e1]
   obtain ⟨a1, a2⟩ := ih (i + 1) s1 (by omega) i1
   refine ⟨fun s' hs' res hr => t1 s1 e1 res (a1 s' hs' res hr), fun hn => ?_⟩
   obtain ⟨o, ho⟩ := a2 hn
   exact ⟨o, t1 s1 e1 _ ho⟩
  ·rw [e1]
   exact ⟨fun s' hs' => (by cases hs'), fun _ => t2 e1⟩
theorem rnds_ev : ∀ (d r : Nat) (s : List S80 × List Bool), r + d = l0.length + 1 → InvR l0 l1 l2 l3 l4 env dn vs s →
  (∀ s', rnds l0 l1 l2 l3 l4 env dn vs d s = some s' → ∀ res, Ev (fun k => spec_l07Of.l4 k s'.1 s'.2 0) res → Ev (fun k => spec_l07Of.l1 k env dn vs s.1 s.2 (r : Int) l0 l1 l2 l3 l4 l5) res) ∧
  (rnds l0 l1 l2 l3 l4 env dn vs d s = none → ∃ o, Ev (fun k => spec_l07Of.l1 k env dn vs s.1 s.2 (r : Int) l0 l1 l2 l3 l4 l5) (o, false)) := by
 intro d
 induction d with
 | zero =>
  intro r s hr h
  refine ⟨fun s' hs' res hk => ?_, fun h => (by cases h)⟩
  obtain rfl := Option.some.inj hs'
  exact stp (fun k => spec_l07Of.l1.eq_2 ..) (ifn (by omega) hk)
 | succ d ih =>
  intro r s hr h
  have hu : wrap64 ((r : Int) + 1) = ((r + 1 : Nat) : Int) := by rw [up (i := (r : Int)) (by omega) (by omega : (r : Int) < (l0.length : Int) + 1) (by omega)]; omega
  obtain ⟨t1, t2⟩ := turns_ev l0 l1 l2 l3 l4 l5 env dn vs h0 h1 h2 h3 hd he hl hvs (r : Int) l0.length 0 s (by omega) h
  rw [hu] at t1
  have st : ∀ res, Ev (fun k => spec_l07Of.l2 k env dn vs s.1 s.2 (r : Int) ((0 : Nat) : Int) l0 l1 l2 l3 l4 l5) res → Ev (fun k => spec_l07Of.l1 k env dn vs s.1 s.2 (r : Int) l0 l1 l2 l3 l4 l5) res := fun res hk => stp (fun k => spec_l07Of.l1.eq_2 ..) (ifp (by omega) hk)
  rw [rnds]
  rcases turns_ok l0 l1 l2 l3 l4 env dn vs hvs l0.length 0 s (by omega) h with ⟨s1, e1, i1, -⟩ | ⟨e1, -⟩
  ·rw [e1]
   obtain ⟨a1, a2⟩ := ih (r + 1) s1 (by omega) i1
   refine ⟨fun s' hs' res hk => st _ (t1 s1 e1 res (a1 s' hs' res hk)), fun hn => ?_⟩
   obtain ⟨o, ho⟩ := a2 hn
   exact ⟨o, st _ (t1 s1 e1 _ ho)⟩
  ·rw [e1]
   refine ⟨fun s' hs' => (by cases hs'), fun _ => ?_⟩
   obtain ⟨o, ho⟩ := t2 e1
   exact ⟨o, st _ ho⟩
theorem sof_is : (∃ out : List S80, Ev (fun k => spec_l07Of.f k l0 l1 l2 l3 l4 l5 env dn vs) (out, true) ∧ out.length = l0.length ∧ ∀ j : Nat, j < l0.length → rtD l1 l2 l3 l4 env dn vs l0.length (j : Int) = some (rd_T80 out (j : Int))) ∨
  (∃ o : List S80, Ev (fun k => spec_l07Of.f k l0 l1 l2 l3 l4 l5 env dn vs) (o, false) ∧ ∃ j : Nat, j < l0.length ∧ rtD l1 l2 l3 l4 env dn vs l0.length (j : Int) = none) := by
 have start : ∀ res, Ev (fun k => spec_l07Of.l1 k env dn vs (List.replicate l0.length noR) (List.replicate l0.length false) 0 l0 l1 l2 l3 l4 l5) res → Ev (fun k => spec_l07Of.f k l0 l1 l2 l3 l4 l5 env dn vs) res := fun res hr => by
  refine evc (fun k => spec_l07Of.f.eq_1 ..) ?_
  have key : ∀ (d i : Nat), i + d = l0.length → Ev (fun k => spec_l07Of.l0 k env dn vs (List.replicate i noR) (i : Int) l0 l1 l2 l3 l4 l5) res := by
   intro d
   induction d with
   | zero =>
    intro i hi
    obtain rfl : i = l0.length := by omega
    refine stp (fun k => spec_l07Of.l0.eq_2 ..) (ifn (by omega) (ifp (by omega) (ifp (by omega) ?_)))
    rw [Int.toNat_natCast, hl]
    exact hr
   | succ d ih =>
    intro i hi
    have hu : wrap64 ((i : Int) + 1) = ((i + 1 : Nat) : Int) := by rw [up (i := (i : Int)) (by omega) (by omega : (i : Int) < (l0.length : Int)) (by omega)]; omega
    have hnx := ih (i + 1) (by omega)
    refine stp (fun k => spec_l07Of.l0.eq_2 ..) (ifp (by omega) (bnd0 rfl (ifp (by rw [List.length_replicate]; omega) ?_)))
    rw [hu, show List.replicate i noR ++ [(⟨-3, 0, 0, false⟩ : S80)] = List.replicate (i + 1) noR from List.replicate_succ'.symm]
    exact hnx
  exact key l0.length 0 (by omega)
 have hc0 : ∀ n : Nat, cntB (List.replicate n false) = 0 := by
  intro n
  induction n with
  | zero => rfl
  | succ n ih => rw [List.replicate_succ, cntB, ih]; rfl
 have hf0 : ∀ j : Int, rdOf false (List.replicate l0.length false) j = false := fun j => by
  unfold rdOf
  rw [List.getD_eq_getElem?_getD, List.getElem?_replicate]
  split <;> rfl
 have hi0 : InvR l0 l1 l2 l3 l4 env dn vs (List.replicate l0.length noR, List.replicate l0.length false) := by
  refine ⟨List.length_replicate, List.length_replicate, fun x hx => ?_, fun j j0 j1 hj => ?_, fun j j0 j1 hj => ?_⟩
  ·rw [List.eq_of_mem_replicate hx]; show (-3 : Int) < _; omega
  ·have : rdOf false (List.replicate l0.length false) j = true := hj
   rw [hf0 j] at this; cases this
  ·show rd_T80 (List.replicate l0.length noR) j = noR
   unfold rd_T80
   rw [List.getD_eq_getElem?_getD, List.getElem?_replicate, if_pos (by omega)]
   rfl
 obtain ⟨a1, a2⟩ := rnds_ev l0 l1 l2 l3 l4 l5 env dn vs h0 h1 h2 h3 hd he hl hvs (l0.length + 1) 0 _ (by omega) hi0
 rcases rnds_ok l0 l1 l2 l3 l4 env dn vs hvs (l0.length + 1) _ hi0 with ⟨s, e, hs, hc⟩ | ⟨e, hx⟩
 ·have hst : stuck l0 vs s := by
   rcases hc with hc | hc
   ·have := cntB_le s.2
    have k2 := hs.2.1
    rw [hc0] at hc
    omega
   ·exact hc
  have hE := start _ (a1 s e _ (l4_ev s.1 s.2 (by rw [hs.2.1]; omega)))
  cases hall : s.2.all id with
  | true =>
   rw [hall] at hE
   refine .inl ⟨s.1, hE, hs.1, fun j hj => ?_⟩
   have hlt : j < s.2.length := by rw [hs.2.1]; exact hj
   have hdj : rdOf false s.2 (j : Int) = true := by
    rw [show rdOf false s.2 (j : Int) = s.2[j] from getD_some (List.getElem?_eq_getElem hlt)]
    exact (List.all_eq_true.1 hall) _ (List.getElem_mem hlt)
   obtain ⟨q1, -, -⟩ := hs.2.2.2.1 (j : Int) (by omega) (by omega) hdj
   have := cntB_le s.2
   have k2 := hs.2.1
   exact rtD_le l1 l2 l3 l4 env dn vs _ _ (by omega) _ _ q1
  | false =>
   rw [hall] at hE
   refine .inr ⟨s.1, hE, ?_⟩
   obtain ⟨b, hb, hbf⟩ := List.all_eq_false.1 hall
   obtain ⟨j, hj, hjb⟩ := List.mem_iff_getElem.1 hb
   have hjn : j < l0.length := by rw [← hs.2.1]; exact hj
   refine ⟨j, hjn, stuck_none l0 l1 l2 l3 l4 env dn vs hvs s hst _ _ (by omega) (by omega) ?_⟩
   rw [show rdOf false s.2 (j : Int) = s.2[j] from getD_some (List.getElem?_eq_getElem hj), hjb]
   simpa using hbf
 ·obtain ⟨o, ho⟩ := a2 e
  exact .inr ⟨o, start _ ho, hx⟩
end
section
variable (l0 : List ByteArray) (l1 : List S92) (l2 l3 : List Int) (l4 : List S95) (l5 : List S97) (env : List Int) (dn : List Bool) (vs : List Int)
 (h0 : l0.length ≤ 4) (h1 : l1.length ≤ 6) (h2 : l2.length ≤ 140737488351232) (h3 : l3.length ≤ 2) (hd : dn.length = l1.length) (he : env.length = l3.length) (hl : vs.length = l0.length)
 (hvs : ∀ j : Int, 0 ≤ j → j < (l0.length : Int) → -3 ≤ rd vs j ∧ rd vs j < (l0.length : Int))
 (h4 : ∀ x ∈ l4, 1 ≤ x.f3 ∧ x.f3 ≤ 4) (hen : ∀ x ∈ env, 0 ≤ x)
include h0 h1 h2 h3 hd he hl hvs h4 hen
theorem neg_is (i : Int) (i0 : 0 ≤ i) (i1 : i < (l0.length : Int)) (hn : rd vs i < 0) (b : Int) : ∃ t : Int × Int × Int × Bool × Bool, Ev (fun k => impl_routeOf.f k l0 l1 l2 l3 l4 l5 env dn vs i b) t ∧ (∀ r, baseR l2 l3 env i (rd vs i) = some r → t = (r.f0, r.f1, r.f2, r.f3, true)) ∧ (baseR l2 l3 env i (rd vs i) = none → t.2.2.2.2 = false) := by
 have _u := And.intro h0 (And.intro h1 (And.intro hd h4))
 obtain ⟨v0, v1⟩ := hvs i i0 i1
 unfold baseR
 by_cases c3 : rd vs i = -3
 ·rw [if_pos c3]
  exact ⟨(-3, 0, 0, false, true), stp (fun k => impl_routeOf.f.eq_2 ..) (ifp i0 (ifp (by omega) (ifp c3 (sm _)))), fun r h => by obtain rfl := Option.some.inj h; rfl, fun h => (by cases h)⟩
 rw [if_neg c3]
 by_cases c2 : rd vs i = -2
 ·rw [if_pos c2]
  have hE : Ev (fun k => impl_routeOf.f k l0 l1 l2 l3 l4 l5 env dn vs i b) ((-2 : Int), (200 : Int), (0 : Int), false, decide (idxE l2 i ≥ 0)) := stp (fun k => impl_routeOf.f.eq_2 ..) (ifp i0 (ifp (by omega) (ifn c3 (ifp c2 (bnd (evc (fun k => impl_ownRoute.f.eq_1 ..) (bnd (evc (fun k => slices_Contains_int_int.f.eq_1 ..) (bnd (index_is l2 h2 i) (sm _))) (sm _))) (sm _))))))
  by_cases c : idxE l2 i ≥ 0
  ·rw [decide_eq_true c] at hE
   rw [if_pos c]
   exact ⟨_, hE, fun r h => by obtain rfl := Option.some.inj h; rfl, fun h => (by cases h)⟩
  ·rw [decide_eq_false c] at hE
   rw [if_neg c]
   exact ⟨_, hE, fun r h => (by cases h), fun _ => rfl⟩
 rw [if_neg c2]
 have c1 : rd vs i = -1 := by omega
 have hlt := idxE_lt l3 i
 have go : ∀ t, Ev (fun k => impl_outRoute.f k l0 l1 l2 l3 l4 l5 env i) t → Ev (fun k => impl_routeOf.f k l0 l1 l2 l3 l4 l5 env dn vs i b) t := fun t ht => stp (fun k => impl_routeOf.f.eq_2 ..) (ifp i0 (ifp (by omega) (ifn c3 (ifn c2 (ifp c1 (bnd ht (sm _)))))))
 by_cases c : idxE l3 i ≥ 0
 ·rw [if_pos c]
  have hm : 0 ≤ rd env (idxE l3 i) := by
   have hk : (idxE l3 i).toNat < env.length := by omega
   rw [show rd env (idxE l3 i) = env[(idxE l3 i).toNat] from getD_some (List.getElem?_eq_getElem hk)]
   exact hen _ (List.getElem_mem hk)
  by_cases c4 : rd env (idxE l3 i) > 0
  ·rw [if_pos c4]
   exact ⟨_, go ((-1 : Int), (100 : Int), (2 : Int), (rd env (idxE l3 i) == 2), true) (evc (fun k => impl_outRoute.f.eq_1 ..) (bnd (index_is l3 (by omega) i) (ifn (by omega) (ifp c (ifp (by omega) (ifn (by omega) (sm _))))))), fun r h => by obtain rfl := Option.some.inj h; rfl, fun h => (by cases h)⟩
  ·rw [if_neg c4]
   exact ⟨_, go ((0 : Int), (0 : Int), (0 : Int), false, false) (evc (fun k => impl_outRoute.f.eq_1 ..) (bnd (index_is l3 (by omega) i) (ifn (by omega) (ifp c (ifp (by omega) (ifp (by omega) (sm _))))))), fun r h => (by cases h), fun _ => rfl⟩
 ·rw [if_neg c]
  exact ⟨_, go ((0 : Int), (0 : Int), (0 : Int), false, false) (evc (fun k => impl_outRoute.f.eq_1 ..) (bnd (index_is l3 (by omega) i) (ifp (by omega) (sm _)))), fun r h => (by cases h), fun _ => rfl⟩
theorem irt_is : ∀ (d : Nat) (i : Int), 0 ≤ i → i < (l0.length : Int) → d ≤ l0.length → ∃ t : Int × Int × Int × Bool × Bool, Ev (fun k => impl_routeOf.f k l0 l1 l2 l3 l4 l5 env dn vs i ((l0.length - d : Nat) : Int)) t ∧ (∀ r, rtD l1 l2 l3 l4 env dn vs d i = some r → t = (r.f0, r.f1, r.f2, r.f3, true)) ∧ (rtD l1 l2 l3 l4 env dn vs d i = none → t.2.2.2.2 = false) := by
 intro d
 induction d with
 | zero =>
  intro i i0 i1 hdn
  obtain ⟨v0, v1⟩ := hvs i i0 i1
  by_cases hn : rd vs i < 0
  ·rw [rtD_neg _ _ _ _ _ _ _ _ _ hn]
   exact neg_is l0 l1 l2 l3 l4 l5 env dn vs h0 h1 h2 h3 hd he hl hvs h4 hen i i0 i1 hn _
  ·rw [rtD, if_neg hn]
   refine ⟨(0, 0, 0, false, false), ?_, fun r h => (by cases h), fun _ => rfl⟩
   exact stp (fun k => impl_routeOf.f.eq_2 ..) (ifp i0 (ifp (by omega) (ifn (by omega) (ifn (by omega) (ifn (by omega) (bnd0 rfl (ifp (by omega) (stp (fun k => impl_routeOf.j0.eq_2 ..) (ifp rfl (sm _))))))))))
 | succ d ih =>
  intro i i0 i1 hdn
  obtain ⟨v0, v1⟩ := hvs i i0 i1
  by_cases hn : rd vs i < 0
  ·rw [rtD_neg _ _ _ _ _ _ _ _ _ hn]
   exact neg_is l0 l1 l2 l3 l4 l5 env dn vs h0 h1 h2 h3 hd he hl hvs h4 hen i i0 i1 hn _
  have hlk := linkI_lt l1 i (rd vs i)
  have hbe : ¬ ((l0.length - (d + 1) : Nat) : Int) = (vs.length : Int) := by omega
  have hu : wrap64 (((l0.length - (d + 1) : Nat) : Int) + 1) = ((l0.length - d : Nat) : Int) := by rw [w64 (by omega) (by omega)]; omega
  have hLO : impl_linkOf.f l0 l1 l2 l3 l4 l5 i (rd vs i) = some (linkI l1 i (rd vs i)) := rfl
  rw [rtD, if_neg hn]
  by_cases c1 : linkI l1 i (rd vs i) < 0
  ·rw [if_neg (by unfold lkR; simp; omega)]
   refine ⟨(0, 0, 0, false, false), ?_, fun r h => (by cases h), fun _ => rfl⟩
   exact stp (fun k => impl_routeOf.f.eq_2 ..) (ifp i0 (ifp (by omega) (ifn (by omega) (ifn (by omega) (ifn (by omega) (bnd0 hLO (ifn hbe (ifp c1 (stp (fun k => impl_routeOf.j0.eq_2 ..) (ifp rfl (sm _)))))))))))
  cases c2 : rdOf false dn (linkI l1 i (rd vs i)) with
  | true =>
   rw [if_neg (by unfold lkR; rw [c2]; simp)]
   refine ⟨(0, 0, 0, false, false), ?_, fun r h => (by cases h), fun _ => rfl⟩
   refine stp (fun k => impl_routeOf.f.eq_2 ..) (ifp i0 (ifp (by omega) (ifn (by omega) (ifn (by omega) (ifn (by omega) (bnd0 hLO (ifn hbe (ifn c1 (ifp (by omega) (ifp (by omega) ?_))))))))))
   rw [c2]
   exact stp (fun k => impl_routeOf.j0.eq_2 ..) (ifp rfl (sm _))
  | false =>
   rw [if_pos (by unfold lkR; rw [c2, decide_eq_true (show linkI l1 i (rd vs i) ≥ 0 by omega)]; rfl)]
   have go : ∀ t, Ev (fun k => impl_routeOf.j0 k env dn vs i ((l0.length - (d + 1) : Nat) : Int) (rd vs i) false l0 l1 l2 l3 l4 l5) t → Ev (fun k => impl_routeOf.f k l0 l1 l2 l3 l4 l5 env dn vs i ((l0.length - (d + 1) : Nat) : Int)) t := fun t ht => by
    refine stp (fun k => impl_routeOf.f.eq_2 ..) (ifp i0 (ifp (by omega) (ifn (by omega) (ifn (by omega) (ifn (by omega) (bnd0 hLO (ifn hbe (ifn c1 (ifp (by omega) (ifp (by omega) ?_))))))))))
    rw [c2]
    exact ht
   obtain ⟨t, e, p1, p2⟩ := ih (rd vs i) (by omega) v1 (by omega)
   rw [← hu] at e
   cases hr : rtD l1 l2 l3 l4 env dn vs d (rd vs i) with
   | none =>
    refine ⟨(0, 0, 0, false, false), go _ (stp (fun k => impl_routeOf.j0.eq_2 ..) (ifn Bool.false_ne_true (bnd e (ifn (by rw [p2 hr]; decide) (sm _))))), fun r h => (by cases h), fun _ => rfl⟩
   | some r =>
    obtain rfl := p1 r hr
    show ∃ t : Int × Int × Int × Bool × Bool, _ ∧ (∀ q, hopR l1 l4 i (rd vs i) r = some q → t = (q.f0, q.f1, q.f2, q.f3, true)) ∧ (hopR l1 l4 i (rd vs i) r = none → t.2.2.2.2 = false)
    unfold hopR
    by_cases c5 : r.f0 = -3
    ·rw [if_pos c5]
     exact ⟨(0, 0, 0, false, false), go _ (stp (fun k => impl_routeOf.j0.eq_2 ..) (ifn Bool.false_ne_true (bnd e (ifp rfl (ifp c5 (sm _)))))), fun r h => (by cases h), fun _ => rfl⟩
    rw [if_neg c5]
    have hI : impl_imported.f 0 l0 l1 l2 l3 l4 l5 i (rd vs i) r.f0 r.f1 r.f2 r.f3 = some (resI (rd vs i) (wrap64 (r.f2 + (rd_T92 l1 (linkI l1 i (rd vs i))).f2)) (impO i (rd vs i) l4 100 r.f3)) := by
     unfold impl_imported.f
     rw [if_pos ⟨by omega, by omega⟩, imp_eq i (rd vs i) l4 h4]
    have hgo : ∀ t, some (resI (rd vs i) (wrap64 (r.f2 + (rd_T92 l1 (linkI l1 i (rd vs i))).f2)) (impO i (rd vs i) l4 100 r.f3)) = some t → Ev (fun k => impl_routeOf.f k l0 l1 l2 l3 l4 l5 env dn vs i ((l0.length - (d + 1) : Nat) : Int)) (t.1, t.2.1, t.2.2.1, t.2.2.2.1, t.2.2.2.2) := fun t ht =>
     go _ (stp (fun k => impl_routeOf.j0.eq_2 ..) (ifn Bool.false_ne_true (bnd e (ifp rfl (ifn c5 (bnd (g := fun k => impl_imported.f k l0 l1 l2 l3 l4 l5 i (rd vs i) r.f0 r.f1 r.f2 r.f3) (one (hI.trans ht)) (sm _)))))))
    cases hq : impO i (rd vs i) l4 100 r.f3 with
    | none =>
     rw [hq] at hgo
     exact ⟨_, hgo _ rfl, fun r h => (by cases h), fun _ => rfl⟩
    | some q =>
     rw [hq] at hgo
     exact ⟨_, hgo _ rfl, fun r h => by obtain rfl := Option.some.inj h; rfl, fun h => (by cases h)⟩
theorem irs_is (out : List S80) (ho : out.length = l0.length) (hj : ∀ j : Nat, j < l0.length → rtD l1 l2 l3 l4 env dn vs l0.length (j : Int) = some (rd_T80 out (j : Int))) : Ev (fun k => impl_routesOf.f k l0 l1 l2 l3 l4 l5 env dn vs) (out, true) := by
 refine evc (fun k => impl_routesOf.f.eq_1 ..) ?_
 have key : ∀ (d i : Nat), i + d = l0.length → Ev (fun k => impl_routesOf.l0 k env dn vs (out.take i) (vs.length : Int) (i : Int) l0 l1 l2 l3 l4 l5) (out, true) := by
  intro d
  induction d with
  | zero =>
   intro i hi
   rw [List.take_of_length_le (by omega)]
   exact stp (fun k => impl_routesOf.l0.eq_2 ..) (ifn (by omega) (sm _))
  | succ d ih =>
   intro i hi
   have hlt : i < out.length := by omega
   have hnx := ih (i + 1) (by omega)
   rw [show ((i + 1 : Nat) : Int) = wrap64 ((i : Int) + 1) by rw [up (i := (i : Int)) (by omega) (by omega : (i : Int) < (l0.length : Int)) (by omega)]; omega] at hnx
   obtain ⟨t, e, p1, -⟩ := irt_is l0 l1 l2 l3 l4 l5 env dn vs h0 h1 h2 h3 hd he hl hvs h4 hen l0.length (i : Int) (by omega) (by omega) (Nat.le_refl _)
   rw [Nat.sub_self] at e
   obtain rfl := p1 _ (hj i (by omega))
   refine stp (fun k => impl_routesOf.l0.eq_2 ..) (ifp (by omega) (bnd e (ifp rfl (ifp (by rw [List.length_take]; omega) ?_))))
   have hx : rd_T80 out (i : Int) = out[i] := getD_some (List.getElem?_eq_getElem hlt)
   rw [show out.take i ++ [(⟨(rd_T80 out (i : Int)).f0, (rd_T80 out (i : Int)).f1, (rd_T80 out (i : Int)).f2, (rd_T80 out (i : Int)).f3⟩ : S80)] = out.take (i + 1) by rw [List.take_succ_eq_append_getElem hlt, hx]]
   exact hnx
 have := key l0.length 0 (by omega)
 rwa [List.take_zero] at this
theorem irs_no (j : Nat) (hj : j < l0.length) (hn : rtD l1 l2 l3 l4 env dn vs l0.length (j : Int) = none) : Ev (fun k => impl_routesOf.f k l0 l1 l2 l3 l4 l5 env dn vs) ([], false) := by
 refine evc (fun k => impl_routesOf.f.eq_1 ..) ?_
 have key : ∀ (d i : Nat) (acc : List S80), i + d = j → acc.length = i → Ev (fun k => impl_routesOf.l0 k env dn vs acc (vs.length : Int) (i : Int) l0 l1 l2 l3 l4 l5) (([] : List S80), false) := by
  intro d
  induction d with
  | zero =>
   intro i acc hi ha
   obtain ⟨t, e, -, p2⟩ := irt_is l0 l1 l2 l3 l4 l5 env dn vs h0 h1 h2 h3 hd he hl hvs h4 hen l0.length (i : Int) (by omega) (by omega) (Nat.le_refl _)
   rw [Nat.sub_self] at e
   have hf := p2 (by rw [show i = j by omega]; exact hn)
   exact stp (fun k => impl_routesOf.l0.eq_2 ..) (ifp (by omega) (bnd e (ifn (by rw [hf]; decide) (sm _))))
  | succ d ih =>
   intro i acc hi ha
   obtain ⟨t, e, -, -⟩ := irt_is l0 l1 l2 l3 l4 l5 env dn vs h0 h1 h2 h3 hd he hl hvs h4 hen l0.length (i : Int) (by omega) (by omega) (Nat.le_refl _)
   rw [Nat.sub_self] at e
   have hnx := ih (i + 1) (acc ++ [⟨t.1, t.2.1, t.2.2.1, t.2.2.2.1⟩]) (by omega) (by simp [ha])
   rw [show ((i + 1 : Nat) : Int) = wrap64 ((i : Int) + 1) by rw [up (i := (i : Int)) (by omega) (by omega : (i : Int) < (l0.length : Int)) (by omega)]; omega] at hnx
   refine stp (fun k => impl_routesOf.l0.eq_2 ..) (ifp (by omega) (bnd e ?_))
   cases hf : t.2.2.2.2 with
   | false => exact ifn Bool.false_ne_true (sm _)
   | true => exact ifp rfl (ifp (by omega) hnx)
 exact key j 0 [] (by omega) rfl
end
theorem same_routes (l0 : List ByteArray) (l1 : List S92) (l2 l3 : List Int) (l4 : List S95) (l5 : List S97) (hs : ∀ x ∈ l0, x.size ≤ 140737488351232) (h2 : l2.length ≤ 140737488351232) (h3 : l3.length ≤ 140737488351232) (env : List Int) (dn : List Bool) (vs : List Int) : ∃ s : List S80 × Int, Ev (fun k => spec_RoutesOf.f k l0 l1 l2 l3 l4 l5 env dn vs) s ∧ Ev (fun k => impl_RoutesOf.f k l0 l1 l2 l3 l4 l5 env dn vs) s ∧ s.1.length ≤ 4 := by
 have hE := senv_is l0 l1 l2 l3 l4 l5 hs h2 h3 env dn
 have hI := icode_is l0 l1 l2 l3 l4 l5 hs h2 h3 env dn [] false true (fun h => by cases h)
 by_cases b3 : (vs.length : Int) > 4096
 ·exact ⟨([], 2), evc (fun k => spec_RoutesOf.f.eq_1 ..) (ifp b3 (sm _)), evc (fun k => impl_RoutesOf.f.eq_1 ..) (ifp b3 (sm _)), by simp⟩
 by_cases b12 : (env.length : Int) > 4096 ∨ (dn.length : Int) > 4096
 ·rw [if_pos b12] at hE
  rw [if_pos (Or.inl b12)] at hI
  exact ⟨([], 2), evc (fun k => spec_RoutesOf.f.eq_1 ..) (ifn b3 (bnd hE (ifn (by decide) (sm _)))), evc (fun k => impl_RoutesOf.f.eq_1 ..) (ifn b3 (bnd hI (ifn (by decide) (sm _)))), by simp⟩
 rw [if_neg b12] at hE
 rw [if_neg (show ¬ (((env.length : Int) > 4096 ∨ (dn.length : Int) > 4096) ∨ (([] : List S80).length : Int) > 4096) from fun h => h.elim b12 (by decide))] at hI
 by_cases hc : envC l0 l1 l2 l3 l4 l5 env dn = 0
 ·rw [hc] at hE
  rw [if_pos hc, if_neg Bool.false_ne_true] at hI
  have hN : netB l0 l1 l2 l3 l4 l5 = true := by
   cases h : netB l0 l1 l2 l3 l4 l5 with
   | true => rfl
   | false => unfold envC at hc; rw [h] at hc; cases hc
  have hA : aroundB l3.length l1.length env dn.length = true := by
   cases h : aroundB l3.length l1.length env dn.length with
   | true => rfl
   | false => unfold envC at hc; rw [hN, h] at hc; cases hc
  obtain ⟨g1, g2, g3, g4⟩ := netB_sz hN
  obtain ⟨hl, h4⟩ := netB_more hN
  obtain ⟨a1, a2, a3⟩ := around_more hA
  have hw : wrap64 ((l0.length : Int) - 1) = (l0.length : Int) - 1 := w64 (by omega) (by omega)
  have hV : impl_areVias.f l0 l1 l2 l3 l4 l5 vs = some (viasB l0.length vs) := rfl
  by_cases hvl : vs.length = l0.length
  · -- the reference's loop over the choices
   have loop : ∀ res, (vs.all (fun v => inB v (-3) ((l0.length : Int) - 1)) = true → Ev (fun k => (spec_l07Of.f k l0 l1 l2 l3 l4 l5 env dn vs).bind fun t => if t.2 = true then some (t.1, (0 : Int)) else some (([] : List S80), (6 : Int))) res) → (vs.all (fun v => inB v (-3) ((l0.length : Int) - 1)) = false → res = (([] : List S80), (5 : Int))) → Ev (fun k => spec_RoutesOf.l0 k env dn vs 0 l0 l1 l2 l3 l4 l5) res := fun res hy hz => by
    have key : ∀ (d i : Nat), i + d = vs.length → (∀ v ∈ vs.take i, inB v (-3) ((l0.length : Int) - 1) = true) → Ev (fun k => spec_RoutesOf.l0 k env dn vs (i : Int) l0 l1 l2 l3 l4 l5) res := by
     intro d
     induction d with
     | zero =>
      intro i hi hp
      rw [List.take_of_length_le (by omega)] at hp
      exact stp (fun k => spec_RoutesOf.l0.eq_2 ..) (ifn (by omega) (hy (List.all_eq_true.2 hp)))
     | succ d ih =>
      intro i hi hp
      have hlt : i < vs.length := by omega
      have hx : rd vs (i : Int) = vs[i] := getD_some (List.getElem?_eq_getElem hlt)
      refine stp (fun k => spec_RoutesOf.l0.eq_2 ..) (ifp (by omega) (ifp (by omega) ?_))
      rw [hx, hw, up (i := (i : Int)) (by omega) (by omega : (i : Int) < (vs.length : Int)) (by omega)]
      refine bnd0 (sin_is _ _ _) ?_
      cases hin : inB vs[i] (-3) ((l0.length : Int) - 1) with
      | true =>
       have hnx := ih (i + 1) (by omega) (fun v hv => by
        rw [List.take_succ_eq_append_getElem hlt] at hv
        rcases List.mem_append.1 hv with hv | hv
        ·exact hp v hv
        ·rw [List.mem_singleton.1 hv]; exact hin)
       rw [show ((i + 1 : Nat) : Int) = (i : Int) + 1 by omega] at hnx
       exact ifp rfl hnx
      | false =>
       rw [hz (List.all_eq_false.2 ⟨vs[i], List.getElem_mem hlt, by rw [hin]; decide⟩)]
       exact ifn Bool.false_ne_true (sm _)
    exact key vs.length 0 (by omega) (fun v hv => by rw [List.take_zero] at hv; cases hv)
   have hvb : viasB l0.length vs = vs.all (fun v => inB v (-3) ((l0.length : Int) - 1)) := by
    unfold viasB inB
    rw [decide_eq_true hvl, Bool.true_and, List.not_any_eq_all_not]
    congr 1
    funext v
    simp
   cases hall : vs.all (fun v => inB v (-3) ((l0.length : Int) - 1)) with
   | false =>
    rw [hall] at hvb
    rw [hvb] at hV
    exact ⟨([], 5), evc (fun k => spec_RoutesOf.f.eq_1 ..) (ifn b3 (bnd hE (ifp rfl (ifp (by omega) (loop _ (fun h => by rw [hall] at h; cases h) (fun _ => rfl)))))), evc (fun k => impl_RoutesOf.f.eq_1 ..) (ifn b3 (bnd hI (ifp rfl (bnd0 hV (ifn Bool.false_ne_true (sm _)))))), by simp⟩
   | true =>
    rw [hall] at hvb
    rw [hvb] at hV
    have hvs : ∀ j : Int, 0 ≤ j → j < (l0.length : Int) → -3 ≤ rd vs j ∧ rd vs j < (l0.length : Int) := fun j j0 j1 => by
     have hk : j.toNat < vs.length := by omega
     have := (List.all_eq_true.1 hall) _ (List.getElem_mem hk)
     rw [show rd vs j = vs[j.toNat] from getD_some (List.getElem?_eq_getElem hk)]
     unfold inB at this
     simp only [Bool.and_eq_true, decide_eq_true_eq] at this
     omega
    rcases sof_is l0 l1 l2 l3 l4 l5 env dn vs g2 g3 h2 g4 a2 a1 hvl hvs with ⟨out, e, ho, hj⟩ | ⟨o, e, j, hj, hn⟩
    ·refine ⟨(out, 0), evc (fun k => spec_RoutesOf.f.eq_1 ..) (ifn b3 (bnd hE (ifp rfl (ifp (by omega) (loop _ (fun _ => bnd e (ifp rfl (sm _))) (fun h => by rw [hall] at h; cases h)))))), evc (fun k => impl_RoutesOf.f.eq_1 ..) (ifn b3 (bnd hI (ifp rfl (bnd0 hV (ifp rfl (bnd (irs_is l0 l1 l2 l3 l4 l5 env dn vs g2 g3 h2 g4 a2 a1 hvl hvs h4 a3 out ho hj) (ifp rfl (sm _)))))))), ?_⟩
     show out.length ≤ 4
     omega
    ·exact ⟨([], 6), evc (fun k => spec_RoutesOf.f.eq_1 ..) (ifn b3 (bnd hE (ifp rfl (ifp (by omega) (loop _ (fun _ => bnd e (ifn Bool.false_ne_true (sm _))) (fun h => by rw [hall] at h; cases h)))))), evc (fun k => impl_RoutesOf.f.eq_1 ..) (ifn b3 (bnd hI (ifp rfl (bnd0 hV (ifp rfl (bnd (irs_no l0 l1 l2 l3 l4 l5 env dn vs g2 g3 h2 g4 a2 a1 hvl hvs h4 a3 j hj hn) (ifn Bool.false_ne_true (sm _)))))))), by simp⟩
  ·rw [show viasB l0.length vs = false by unfold viasB; rw [decide_eq_false hvl]; rfl] at hV
   exact ⟨([], 5), evc (fun k => spec_RoutesOf.f.eq_1 ..) (ifn b3 (bnd hE (ifp rfl (ifn (by omega) (sm _))))), evc (fun k => impl_RoutesOf.f.eq_1 ..) (ifn b3 (bnd hI (ifp rfl (bnd0 hV (ifn Bool.false_ne_true (sm _)))))), by simp⟩
 ·rw [if_neg hc] at hI
  exact ⟨([], envC l0 l1 l2 l3 l4 l5 env dn), evc (fun k => spec_RoutesOf.f.eq_1 ..) (ifn b3 (bnd hE (ifn hc (sm _)))), evc (fun k => impl_RoutesOf.f.eq_1 ..) (ifn b3 (bnd hI (ifn hc (sm _)))), by simp⟩
theorem FnExactRoutesOf : laws_FnExactRoutesOf.Pure := by
 intro l0 l1 l2 l3 l4 l5 en dn vs w0 w1 w2 w3 w4 w5 we wd wr
 obtain ⟨b0, s0⟩ := w0
 obtain ⟨b1, s1⟩ := w1
 obtain ⟨b2, s2⟩ := w2
 obtain ⟨b3, s3⟩ := w3
 obtain ⟨b4, s4⟩ := w4
 obtain ⟨b5, s5⟩ := w5
 obtain ⟨be, se⟩ := we
 obtain ⟨bd, sd⟩ := wd
 obtain ⟨br, sr⟩ := wr
 refine Ev.rounds ?_
 refine evc (fun k => laws_FnExactRoutesOf.f.eq_1 ..) ?_
 by_cases hbe : (en.length : Int) > 1048576
 ·exact ifp hbe (sm _)
 refine ifn hbe ?_
 by_cases hbd : (dn.length : Int) > 1048576
 ·exact ifp hbd (sm _)
 refine ifn hbd ?_
 by_cases hbv : (vs.length : Int) > 1048576
 ·exact ifp hbv (sm _)
 refine ifn hbv ?_
 obtain ⟨v, hv, hle⟩ := szNet_is l0 l1 l2 l3 l4 l5 s0 (by omega) (by omega) (by omega) (by omega) (by omega) (by omega)
 refine bnd hv ?_
 by_cases h : v < 0
 ·exact ifp h (sm _)
 refine ifn h ?_
 have hto := toNet_is l0 l1 l2 l3 l4 l5 (by omega) (by omega) (by omega) (by omega) (by omega) (by omega)
 obtain ⟨s, hs, hi, hsl⟩ := same_routes l0 (l1.map cvL) l2 l3 (l4.map cvI) (l5.map cvF) s0 (by omega) (by omega) en dn vs
 have c1 : (l1.map cvL).length ≤ 140737488351232 := by rw [List.length_map]; omega
 have c4 : (l4.map cvI).length ≤ 140737488351232 := by rw [List.length_map]; omega
 have c5 : (l5.map cvF).length ≤ 140737488351232 := by rw [List.length_map]; omega
 obtain ⟨r, hr, hr0, hr1⟩ := markNet_is l0 (l1.map cvL) l2 l3 (l4.map cvI) (l5.map cvF) (by omega) c1 (by omega) (by omega) c4 c5
 obtain ⟨me, hme⟩ := markInts_is en r.1 (by omega) hr0 (by omega)
 obtain ⟨mb, hmb⟩ := markBools_is dn (r.1 + ((1 * en.length : Nat) : Int)) (by omega) (by omega) (by omega)
 obtain ⟨mv, hmv⟩ := markInts_is vs (r.1 + ((1 * en.length : Nat) : Int) + ((1 * dn.length : Nat) : Int)) (by omega) (by omega) (by omega)
 obtain ⟨m, m1, m2, m3⟩ := markR_is s.1 1 (by omega) (by omega) (by omega)
 have hh := heldR_is m 1 (by omega) (by omega) (by omega) m2
 refine bnd hto (bnd (toI_is en (by omega)) (bnd (toB_is dn (by omega)) (bnd (toI_is vs (by omega)) (bnd hs (bnd hi (bnd (eqR_self s.1 (by omega)) (bnd (eqNet_self l0 (l1.map cvL) l2 l3 (l4.map cvI) (l5.map cvF) (by omega) c1 (by omega) (by omega) c4 c5) (bnd (eqI_self en (by omega)) (bnd (eqB_self dn (by omega)) (bnd (eqI_self vs (by omega)) (bnd hr (bnd hme (bnd hmb (bnd hmv (bnd m3 (bnd hh (ifp ?_ (sm _))))))))))))))))))
 refine ⟨rfl, rfl, rfl, rfl, rfl, rfl, ?_, ?_, ?_, m1⟩
 ·show 0 ≤ r.1 + _ + _ + _
  omega
 ·show _ = (1 : Int) + 4 * (s.1.length : Int)
  rw [m1]
 ·show (0 : Int) ≤ 1 + 4 * (s.1.length : Int)
  omega
end Go.Proofs.Ytgibacfgjmdjdaa.Pure
end
