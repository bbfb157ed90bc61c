/- FnExactRoutesOf: for every input the law returns true. The texts that this program's session printed and proved for it, those that the proof uses, laid together. Conditions: the form's own reach alone. -/
import Derived.Test.YtgibacfgjmdjdaaQFnExactRoutesOf3
section
namespace Go.Proofs.Ytgibacfgjmdjdaa.PFnExactIsStable
open Go.RowKit Go.Proofs.YtgibacfgjmdjdaaW.PrintWords Go.Proofs.YtgibacfgjmdjdaaW.PrintLast Go.Proofs.YtgibacfgjmdjdaaW.PrintMore
attribute [local go_sem] max2_int min2_int max_two min_two max_three min_three max_four min_four   -- for this text's walks alone
set_option linter.unusedVariables false
set_option maxHeartbeats 8000000
set_option maxRecDepth 100000
set_option linter.unusedSimpArgs false
def slices_Index_int_int.l0 : Nat → List Int → Int → Int → Int → Option (Int)
 | 0, _, _, _, _ => none
 | k + 1, x0, x1, x7, x8 => if x8 < x7 then (if 0 ≤ x8 then (if x8 < (x0.length : Int) then (if x1 = (rd x0 x8) then (some x8) else (slices_Index_int_int.l0 k x0 x1 x7 (wrap64 (x8 + 1)))) else (none)) else (none)) else (some (-1))
def slices_Index_int_int.f (k : Nat) (l0 : List Int) (a1 : Int) : Option (Int) := slices_Index_int_int.l0 k l0 a1 (l0.length : Int) 0
theorem slices_Index_int_int.calls (k : Nat) (A0 : Option Addr) (c0 : Nat) (l0 : List Int) (a1 : Int) (r : Int) (w : World) (hr0 : Kd.C (Kd.int .i64) w A0 l0.length l0) (hc0 : l0.length ≤ c0) (h : slices_Index_int_int.f k l0 a1 = some r) :
  Calls Try.prog 118 #[.slice A0 l0.length c0, .int .i64 a1] w fun e w' => e = .returned (.int .i64 r) ∧ Drawn0 w w' := by
 have HR0 := aM hr0
 have HC0 := aM hc0
 clear hr0 hc0
 have H : (slices_Index_int_int.l0 k l0 a1 (l0.length : Int) 0) = some r := h
 clear h
 have H' := aM H
 clear H
 go_enter Try.func118, Try.ntmps118
 go_wp2
 go_loopg [8] k (fun kq v8 w' => ∃ (x8_1 : Int), v8 = .int .i64 x8_1 ∧ Aside0 (slices_Index_int_int.l0 kq l0 a1 (l0.length : Int) x8_1 = some r) ∧ Aside0 (kq ≤ k) ∧ Drawn0 w w')
 case atStart => exact ⟨(0), (by rfl), H', ⟨Nat.le_refl _⟩, by repeat (exact Drawn0.refl _)⟩
 clear H'
 obtain ⟨x8_1, rfl, HA, HK1, ⟨m1, rfl⟩⟩ := hrel
 cases gk with
 | zero => exact absurd HA.out (by simp [slices_Index_int_int.l0])
 | succ k1 =>
  have H := HA.out
  clear HA
  simp only [slices_Index_int_int.l0] at H
  by_cases c3 : x8_1 < (l0.length : Int)
  rotate_left
  ·rw [if_neg c3] at H
   have c3b0 : decide (x8_1 < (l0.length : Int)) = false := decide_eq_false c3
   clear c3
   obtain rfl := Option.some.inj H
   go_wp2
   go_ret
   exact ⟨by rfl, by repeat (first | exact Drawn0.refl _ | apply Drawn0.step)⟩
  rw [if_pos c3] at H
  have c3b0 : decide (x8_1 < (l0.length : Int)) = true := decide_eq_true c3
  clear c3
  by_cases c4 : 0 ≤ x8_1
  rotate_left
  ·rw [if_neg c4] at H
   exact absurd H (by simp)
  rw [if_pos c4] at H
  have c4b0 : decide (0 ≤ x8_1) = true := decide_eq_true c4
  clear c4
  by_cases c5 : x8_1 < (l0.length : Int)
  rotate_left
  ·rw [if_neg c5] at H
   exact absurd H (by simp)
  rw [if_pos c5] at H
  have c5b0 : decide (x8_1 < (l0.length : Int)) = true := decide_eq_true c5
  clear c5
  by_cases c6 : a1 = (rd l0 x8_1)
  ·rw [if_pos c6] at H
   have c6b0 : (a1 == (rd l0 x8_1)) = true := beq_iff_eq.mpr c6
   have c6b1 : (a1 != (rd l0 x8_1)) = false := bne_eq_false_iff_eq.mpr c6
   clear c6
   obtain rfl := Option.some.inj H
   have p332 : 0 ≤ (x8_1 : Int) := oD ‹_›
   have q332 : x8_1 < (l0.length : Int) := oD ‹_›
   obtain ⟨ad332, e332, hx332_0⟩ := Kd.at_int HR0.out x8_1 p332 q332
   cases e332
   replace p332 := eq_true p332
   replace q332 := eq_true q332
   go_wp2
   go_ret
   exact ⟨by rfl, by repeat (first | exact Drawn0.refl _ | apply Drawn0.step)⟩
  rw [if_neg c6] at H
  have c6b0 : (a1 == (rd l0 x8_1)) = false := beq_eq_false_iff_ne.mpr c6
  have c6b1 : (a1 != (rd l0 x8_1)) = true := bne_iff_ne.mpr c6
  have H' := aM H
  clear H
  have p332 : 0 ≤ (x8_1 : Int) := oD ‹_›
  have q332 : x8_1 < (l0.length : Int) := oD ‹_›
  obtain ⟨ad332, e332, hx332_0⟩ := Kd.at_int HR0.out x8_1 p332 q332
  cases e332
  replace p332 := eq_true p332
  replace q332 := eq_true q332
  go_wp2
  go_roundg k1
  case measure => have := HK1.out; omega
  case rel => exact ⟨(wrap64 (x8_1 + 1)), (by rfl), H', ⟨by have := HK1.out; omega⟩, by repeat (first | exact Drawn0.refl _ | apply Drawn0.step)⟩
def slices_Contains_int_int.f (k : Nat) (l0 : List Int) (a1 : Int) : Option (Bool) := (slices_Index_int_int.f k l0 a1).bind fun t333 => (some (decide (t333 ≥ 0)))
theorem slices_Contains_int_int.calls (k : Nat) (A0 : Option Addr) (c0 : Nat) (l0 : List Int) (a1 : Int) (r : Bool) (w : World) (hr0 : Kd.C (Kd.int .i64) w A0 l0.length l0) (hc0 : l0.length ≤ c0) (h : slices_Contains_int_int.f k l0 a1 = some r) :
  Calls Try.prog 117 #[.slice A0 l0.length c0, .int .i64 a1] w fun e w' => e = .returned (.bool r) ∧ Drawn0 w w' := by
 have HR0 := aM hr0
 have HC0 := aM hc0
 clear hr0 hc0
 have H : ((slices_Index_int_int.f k l0 a1).bind fun t333 => (some (decide (t333 ≥ 0)))) = some r := h
 clear h
 replace H := bS H
 obtain ⟨t333, A30, H⟩ := H
 replace H : (some (decide (t333 ≥ 0))) = some r := H
 have A3 := aM A30
 clear A30
 obtain rfl := Option.some.inj H
 go_enter Try.func117, Try.ntmps117
 go_wp2_with ((go_at_call 118; (with_reducible refine (slices_Index_int_int.calls k _ _ l0 a1 t333 _ HR0.out HC0.out A3.out).mono ?_); rintro e w' ⟨rfl, ⟨nd, rfl⟩⟩))
 go_ret
 exact ⟨by rfl, by repeat (first | exact Drawn0.refl _ | apply Drawn0.step)⟩
def impl_ownRoute.f (k : Nat) (l0_0 : List ByteArray) (l0_1 : List (S92)) (l0_2 : List Int) (l0_3 : List Int) (l0_4 : List (S95)) (l0_5 : List (S97)) (a1 : Int) : Option (Int × Int × Int × Bool × Bool) := (slices_Contains_int_int.f k l0_2 a1).bind fun t336 => (some ((-2), 200, 0, false, t336))
theorem impl_ownRoute.calls (k : Nat) (A0_0 : Option Addr) (c0_0 : Nat) (l0_0 : List ByteArray) (A0_1 : Option Addr) (c0_1 : Nat) (l0_1 : List (S92)) (A0_2 : Option Addr) (c0_2 : Nat) (l0_2 : List Int) (A0_3 : Option Addr) (c0_3 : Nat) (l0_3 : List Int) (A0_4 : Option Addr) (c0_4 : Nat) (l0_4 : List (S95)) (A0_5 : Option Addr) (c0_5 : Nat) (l0_5 : List (S97)) (a1 : Int) (r1 : Int) (r2 : Int) (r3 : Int) (r4 : Bool) (r5 : Bool) (w : World) (hr0_0 : Kd.C Kd.string w A0_0 l0_0.length l0_0) (hc0_0 : l0_0.length ≤ c0_0) (hr0_1 : Kd.C k92 w A0_1 l0_1.length l0_1) (hc0_1 : l0_1.length ≤ c0_1) (hr0_2 : Kd.C (Kd.int .i64) w A0_2 l0_2.length l0_2) (hc0_2 : l0_2.length ≤ c0_2) (hr0_3 : Kd.C (Kd.int .i64) w A0_3 l0_3.length l0_3) (hc0_3 : l0_3.length ≤ c0_3) (hr0_4 : Kd.C k95 w A0_4 l0_4.length l0_4) (hc0_4 : l0_4.length ≤ c0_4) (hr0_5 : Kd.C k97 w A0_5 l0_5.length l0_5) (hc0_5 : l0_5.length ≤ c0_5) (h : impl_ownRoute.f k l0_0 l0_1 l0_2 l0_3 l0_4 l0_5 a1 = some (r1, r2, r3, r4, r5)) :
  Calls Try.prog 102 #[.agg #[.slice A0_0 l0_0.length c0_0, .slice A0_1 l0_1.length c0_1, .slice A0_2 l0_2.length c0_2, .slice A0_3 l0_3.length c0_3, .slice A0_4 l0_4.length c0_4, .slice A0_5 l0_5.length c0_5], .int .i64 a1] w fun e w' => e = .returned (.tuple #[.agg #[.int .i64 r1, .int .i64 r2, .int .i64 r3, .bool r4], .bool r5]) ∧ Below w.heap.size w w' := by
 have hu38 := Try.underlying38
 have hu80 := Try.underlying80
 obtain ⟨HR0_0, HC0_0, HR0_1, HC0_1, HR0_2, HC0_2, HR0_3, HC0_3, HR0_4, HC0_4, HR0_5, HC0_5⟩ := as12 hr0_0 hc0_0 hr0_1 hc0_1 hr0_2 hc0_2 hr0_3 hc0_3 hr0_4 hc0_4 hr0_5 hc0_5
 clear hr0_0 hc0_0 hr0_1 hc0_1 hr0_2 hc0_2 hr0_3 hc0_3 hr0_4 hc0_4 hr0_5 hc0_5
 have HB := aM (Below.refl w.heap.size w)
 have H : ((slices_Contains_int_int.f k l0_2 a1).bind fun t336 => (some ((-2), 200, 0, false, t336))) = some (r1, r2, r3, r4, r5) := h
 clear h
 replace H := bS H
 obtain ⟨t336, A30, H⟩ := H
 replace H : (some ((-2), 200, 0, false, t336)) = some (r1, r2, r3, r4, r5) := H
 have A3 := aM A30
 clear A30
 simp only [Option.some.injEq, Prod.mk.injEq] at H
 obtain ⟨rfl, rfl, rfl, rfl, rfl⟩ := H
 go_enter Try.func102, Try.ntmps102
 go_wp2_with (first | ((with_reducible refine gate_dst (N := 2) rfl ?_); refine box_event rfl (N := 2) rfl (cs := #[.slice A0_0 l0_0.length c0_0, .slice A0_1 l0_1.length c0_1, .slice A0_2 l0_2.length c0_2, .slice A0_3 l0_3.length c0_3, .slice A0_4 l0_4.length c0_4, .slice A0_5 l0_5.length c0_5]) (t := 38) (by go_simp; done) ?_; intro gb334 hg w4 hbox hb; have BK334 := aM (hbox); have GW334 := bGE HB.out hg; have GE334 := bGE HB.out hg; replace HB := aB HB hb; clear hb hbox hg) | ((with_reducible refine gate_dst (N := 4) rfl ?_); refine box_event rfl (N := 4) rfl (cs := #[.int .i64 0, .int .i64 0, .int .i64 0, .bool false]) (t := 80) (by go_simp; done) ?_; intro gb335 hg w5 hbox hb; have BK335 := aM (hbox); have GW335 := bGE HB.out hg; have GE335 := bGE HB.out hg; replace HB := aB HB hb; have NB334_335 := bLT BK334.out hg; have NB335_334 := bGT BK334.out hg; replace BK334 := aK BK334 hb; clear hb hbox hg; have hnb6 := NB334_335.out; have hnc6 := NB335_334.out; obtain ⟨hcz7_0, hcz7_1, hcz7_2, hcz7_3, hcz7_4, hcz7_5⟩ := swc6 BK334.out; obtain ⟨hfz7_0, hfz7_1, hfz7_2, hfz7_3, hfz7_4, hfz7_5⟩ := swf6 BK334.out) | (go_at_call 117; (with_reducible refine (slices_Contains_int_int.calls k _ _ l0_2 a1 t336 _ (Kd.C_below HR0_2.out HB.out) HC0_2.out A3.out).mono ?_); rintro e w' ⟨rfl, ⟨nd, rfl⟩⟩; (try (rw [drewN_self w5]; generalize hq_ : World.drewN w5 _ = w5; have n0_ : Aside0 (w5.heap[gb334]? = some (.cells #[.slice A0_0 l0_0.length c0_0, .slice A0_1 l0_1.length c0_1, .slice A0_2 l0_2.length c0_2, .slice A0_3 l0_3.length c0_3, .slice A0_4 l0_4.length c0_4, .slice A0_5 l0_5.length c0_5] 38 (0, 0))) := ⟨by rw [← hq_]; exact (by (with_reducible repeat (refine blk_drewN ?_ _)); exact BK334.out)⟩; have n1_ : Aside0 (w5.heap[gb335]? = some (.cells #[.int .i64 0, .int .i64 0, .int .i64 0, .bool false] 80 (0, 0))) := ⟨by rw [← hq_]; exact (by (with_reducible repeat (refine blk_drewN ?_ _)); exact BK335.out)⟩; have n2_ : Aside0 (Below w.heap.size w w5) := ⟨by rw [← hq_]; exact (by repeat ((with_reducible first | exact HB.out | apply pw_below_drewN)))⟩; clear BK334 BK335 HB hq_; have BK334 := n0_; have BK335 := n1_; have HB := n2_; clear n0_ n1_ n2_)); obtain ⟨hcz8_0, hcz8_1, hcz8_2, hcz8_3⟩ := swc4 BK335.out; obtain ⟨hfz8_0, hfz8_1, hfz8_2, hfz8_3⟩ := swf4 BK335.out))
 refine bodyPost_ret (results_ct rfl _ _ gb335 80 #[.int .i64 (-2), .int .i64 200, .int .i64 0, .bool false] (0, 0) _ rfl (by refine blk_put (cs := #[.int .i64 (-2), .int .i64 200, .int .i64 0, .bool false]) ?_ 3 _ rfl; refine blk_put (cs := #[.int .i64 (-2), .int .i64 200, .int .i64 0, .bool false]) ?_ 2 _ rfl; refine blk_put (cs := #[.int .i64 (-2), .int .i64 0, .int .i64 0, .bool false]) ?_ 1 _ rfl; refine blk_put (cs := #[.int .i64 0, .int .i64 0, .int .i64 0, .bool false]) ?_ 0 _ rfl; exact BK335.out) Try.underlying80 rfl (by kernel_rfl)) rfl ?_
 exact ⟨by rfl, by repeat ((with_reducible first | exact HB.out | refine below_set ?_ GE335.out))⟩
def impl_outRoute.f (k : Nat) (l0_0 : List ByteArray) (l0_1 : List (S92)) (l0_2 : List Int) (l0_3 : List Int) (l0_4 : List (S95)) (l0_5 : List (S97)) (l1 : List Int) (a2 : Int) : Option (Int × Int × Int × Bool × Bool) := (slices_Index_int_int.f k l0_3 a2).bind fun t339 => (if t339 < 0 then (some (0, 0, 0, false, false)) else (if 0 ≤ t339 then (if t339 < (l1.length : Int) then (if (rd l1 t339) = 0 then (some (0, 0, 0, false, false)) else (some ((-1), 100, 2, ((rd l1 t339) == 2), true))) else (none)) else (none)))
theorem impl_outRoute.calls (k : Nat) (A0_0 : Option Addr) (c0_0 : Nat) (l0_0 : List ByteArray) (A0_1 : Option Addr) (c0_1 : Nat) (l0_1 : List (S92)) (A0_2 : Option Addr) (c0_2 : Nat) (l0_2 : List Int) (A0_3 : Option Addr) (c0_3 : Nat) (l0_3 : List Int) (A0_4 : Option Addr) (c0_4 : Nat) (l0_4 : List (S95)) (A0_5 : Option Addr) (c0_5 : Nat) (l0_5 : List (S97)) (A1 : Option Addr) (c1 : Nat) (l1 : List Int) (a2 : Int) (r1 : Int) (r2 : Int) (r3 : Int) (r4 : Bool) (r5 : Bool) (w : World) (hr0_0 : Kd.C Kd.string w A0_0 l0_0.length l0_0) (hc0_0 : l0_0.length ≤ c0_0) (hr0_1 : Kd.C k92 w A0_1 l0_1.length l0_1) (hc0_1 : l0_1.length ≤ c0_1) (hr0_2 : Kd.C (Kd.int .i64) w A0_2 l0_2.length l0_2) (hc0_2 : l0_2.length ≤ c0_2) (hr0_3 : Kd.C (Kd.int .i64) w A0_3 l0_3.length l0_3) (hc0_3 : l0_3.length ≤ c0_3) (hr0_4 : Kd.C k95 w A0_4 l0_4.length l0_4) (hc0_4 : l0_4.length ≤ c0_4) (hr0_5 : Kd.C k97 w A0_5 l0_5.length l0_5) (hc0_5 : l0_5.length ≤ c0_5) (hr1 : Kd.C (Kd.int .i64) w A1 l1.length l1) (hc1 : l1.length ≤ c1) (h : impl_outRoute.f k l0_0 l0_1 l0_2 l0_3 l0_4 l0_5 l1 a2 = some (r1, r2, r3, r4, r5)) :
  Calls Try.prog 103 #[.agg #[.slice A0_0 l0_0.length c0_0, .slice A0_1 l0_1.length c0_1, .slice A0_2 l0_2.length c0_2, .slice A0_3 l0_3.length c0_3, .slice A0_4 l0_4.length c0_4, .slice A0_5 l0_5.length c0_5], .slice A1 l1.length c1, .int .i64 a2] w fun e w' => e = .returned (.tuple #[.agg #[.int .i64 r1, .int .i64 r2, .int .i64 r3, .bool r4], .bool r5]) ∧ Below w.heap.size w w' := by
 have hu38 := Try.underlying38
 have hu80 := Try.underlying80
 obtain ⟨HR0_0, HC0_0, HR0_1, HC0_1, HR0_2, HC0_2, HR0_3, HC0_3, HR0_4, HC0_4, HR0_5, HC0_5⟩ := as12 hr0_0 hc0_0 hr0_1 hc0_1 hr0_2 hc0_2 hr0_3 hc0_3 hr0_4 hc0_4 hr0_5 hc0_5
 clear hr0_0 hc0_0 hr0_1 hc0_1 hr0_2 hc0_2 hr0_3 hc0_3 hr0_4 hc0_4 hr0_5 hc0_5
 have HR1 := aM hr1
 have HC1 := aM hc1
 clear hr1 hc1
 have HB := aM (Below.refl w.heap.size w)
 have H : ((slices_Index_int_int.f k l0_3 a2).bind fun t339 => (if t339 < 0 then (some (0, 0, 0, false, false)) else (if 0 ≤ t339 then (if t339 < (l1.length : Int) then (if (rd l1 t339) = 0 then (some (0, 0, 0, false, false)) else (some ((-1), 100, 2, ((rd l1 t339) == 2), true))) else (none)) else (none)))) = some (r1, r2, r3, r4, r5) := h
 clear h
 replace H := bS H
 obtain ⟨t339, A40, H⟩ := H
 replace H : (if t339 < 0 then (some (0, 0, 0, false, false)) else (if 0 ≤ t339 then (if t339 < (l1.length : Int) then (if (rd l1 t339) = 0 then (some (0, 0, 0, false, false)) else (some ((-1), 100, 2, ((rd l1 t339) == 2), true))) else (none)) else (none))) = some (r1, r2, r3, r4, r5) := H
 have A4 := aM A40
 clear A40
 by_cases c5 : t339 < 0
 ·rw [if_pos c5] at H
  have c5b0 : decide (t339 < 0) = true := decide_eq_true c5
  clear c5
  simp only [Option.some.injEq, Prod.mk.injEq] at H
  obtain ⟨rfl, rfl, rfl, rfl, rfl⟩ := H
  go_enter Try.func103, Try.ntmps103
  go_wp2_with (first | ((with_reducible refine gate_dst (N := 3) rfl ?_); refine box_event rfl (N := 3) rfl (cs := #[.slice A0_0 l0_0.length c0_0, .slice A0_1 l0_1.length c0_1, .slice A0_2 l0_2.length c0_2, .slice A0_3 l0_3.length c0_3, .slice A0_4 l0_4.length c0_4, .slice A0_5 l0_5.length c0_5]) (t := 38) (by go_simp; done) ?_; intro gb337 hg w6 hbox hb; have BK337 := aM (hbox); have GW337 := bGE HB.out hg; have GE337 := bGE HB.out hg; replace HB := aB HB hb; clear hb hbox hg) | ((with_reducible refine gate_dst (N := 6) rfl ?_); refine box_event rfl (N := 6) rfl (cs := #[.int .i64 0, .int .i64 0, .int .i64 0, .bool false]) (t := 80) (by go_simp; done) ?_; intro gb338 hg w7 hbox hb; have BK338 := aM (hbox); have GW338 := bGE HB.out hg; have GE338 := bGE HB.out hg; replace HB := aB HB hb; have NB337_338 := bLT BK337.out hg; have NB338_337 := bGT BK337.out hg; replace BK337 := aK BK337 hb; clear hb hbox hg; have hnb8 := NB337_338.out; have hnc8 := NB338_337.out; obtain ⟨hcz9_0, hcz9_1, hcz9_2, hcz9_3, hcz9_4, hcz9_5⟩ := swc6 BK337.out; obtain ⟨hfz9_0, hfz9_1, hfz9_2, hfz9_3, hfz9_4, hfz9_5⟩ := swf6 BK337.out) | (go_at_call 118; (with_reducible refine (slices_Index_int_int.calls k _ _ l0_3 a2 t339 _ (Kd.C_below HR0_3.out HB.out) HC0_3.out A4.out).mono ?_); rintro e w' ⟨rfl, ⟨nd, rfl⟩⟩; (try (rw [drewN_self w7]; generalize hq_ : World.drewN w7 _ = w7; have n0_ : Aside0 (w7.heap[gb337]? = some (.cells #[.slice A0_0 l0_0.length c0_0, .slice A0_1 l0_1.length c0_1, .slice A0_2 l0_2.length c0_2, .slice A0_3 l0_3.length c0_3, .slice A0_4 l0_4.length c0_4, .slice A0_5 l0_5.length c0_5] 38 (0, 0))) := ⟨by rw [← hq_]; exact (by (with_reducible repeat (refine blk_drewN ?_ _)); exact BK337.out)⟩; have n1_ : Aside0 (w7.heap[gb338]? = some (.cells #[.int .i64 0, .int .i64 0, .int .i64 0, .bool false] 80 (0, 0))) := ⟨by rw [← hq_]; exact (by (with_reducible repeat (refine blk_drewN ?_ _)); exact BK338.out)⟩; have n2_ : Aside0 (Below w.heap.size w w7) := ⟨by rw [← hq_]; exact (by repeat ((with_reducible first | exact HB.out | apply pw_below_drewN)))⟩; clear BK337 BK338 HB hq_; have BK337 := n0_; have BK338 := n1_; have HB := n2_; clear n0_ n1_ n2_)); obtain ⟨hcz10_0, hcz10_1, hcz10_2, hcz10_3⟩ := swc4 BK338.out; obtain ⟨hfz10_0, hfz10_1, hfz10_2, hfz10_3⟩ := swf4 BK338.out))
  refine bodyPost_ret (results_ct rfl _ _ gb338 80 #[.int .i64 0, .int .i64 0, .int .i64 0, .bool false] (0, 0) _ rfl (by refine blk_put (cs := #[.int .i64 0, .int .i64 0, .int .i64 0, .bool false]) ?_ 3 _ rfl; refine blk_put (cs := #[.int .i64 0, .int .i64 0, .int .i64 0, .bool false]) ?_ 2 _ rfl; refine blk_put (cs := #[.int .i64 0, .int .i64 0, .int .i64 0, .bool false]) ?_ 1 _ rfl; refine blk_put (cs := #[.int .i64 0, .int .i64 0, .int .i64 0, .bool false]) ?_ 0 _ rfl; exact BK338.out) Try.underlying80 rfl (by kernel_rfl)) rfl ?_
  exact ⟨by rfl, by repeat ((with_reducible first | exact HB.out | refine below_set ?_ GE338.out))⟩
 rw [if_neg c5] at H
 have c5b0 : decide (t339 < 0) = false := decide_eq_false c5
 clear c5
 by_cases c11 : 0 ≤ t339
 rotate_left
 ·rw [if_neg c11] at H
  exact absurd H (by simp)
 rw [if_pos c11] at H
 have c11b0 : decide (0 ≤ t339) = true := decide_eq_true c11
 clear c11
 by_cases c12 : t339 < (l1.length : Int)
 rotate_left
 ·rw [if_neg c12] at H
  exact absurd H (by simp)
 rw [if_pos c12] at H
 have c12b0 : decide (t339 < (l1.length : Int)) = true := decide_eq_true c12
 clear c12
 by_cases c13 : (rd l1 t339) = 0
 ·rw [if_pos c13] at H
  have c13b0 : ((rd l1 t339) == 0) = true := beq_iff_eq.mpr c13
  have c13b1 : ((rd l1 t339) != 0) = false := bne_eq_false_iff_eq.mpr c13
  clear c13
  simp only [Option.some.injEq, Prod.mk.injEq] at H
  obtain ⟨rfl, rfl, rfl, rfl, rfl⟩ := H
  go_enter Try.func103, Try.ntmps103
  go_wp2_with (first | ((with_reducible refine gate_dst (N := 3) rfl ?_); refine box_event rfl (N := 3) rfl (cs := #[.slice A0_0 l0_0.length c0_0, .slice A0_1 l0_1.length c0_1, .slice A0_2 l0_2.length c0_2, .slice A0_3 l0_3.length c0_3, .slice A0_4 l0_4.length c0_4, .slice A0_5 l0_5.length c0_5]) (t := 38) (by go_simp; done) ?_; intro gb337 hg w14 hbox hb; have BK337 := aM (hbox); have GW337 := bGE HB.out hg; have GE337 := bGE HB.out hg; replace HB := aB HB hb; clear hb hbox hg) | ((with_reducible refine gate_dst (N := 6) rfl ?_); refine box_event rfl (N := 6) rfl (cs := #[.int .i64 0, .int .i64 0, .int .i64 0, .bool false]) (t := 80) (by go_simp; done) ?_; intro gb338 hg w15 hbox hb; have BK338 := aM (hbox); have GW338 := bGE HB.out hg; have GE338 := bGE HB.out hg; replace HB := aB HB hb; have NB337_338 := bLT BK337.out hg; have NB338_337 := bGT BK337.out hg; replace BK337 := aK BK337 hb; clear hb hbox hg; have hnb16 := NB337_338.out; have hnc16 := NB338_337.out; obtain ⟨hcz17_0, hcz17_1, hcz17_2, hcz17_3, hcz17_4, hcz17_5⟩ := swc6 BK337.out; obtain ⟨hfz17_0, hfz17_1, hfz17_2, hfz17_3, hfz17_4, hfz17_5⟩ := swf6 BK337.out) | (go_at_call 118; (with_reducible refine (slices_Index_int_int.calls k _ _ l0_3 a2 t339 _ (Kd.C_below HR0_3.out HB.out) HC0_3.out A4.out).mono ?_); rintro e w' ⟨rfl, ⟨nd, rfl⟩⟩; (try (rw [drewN_self w15]; generalize hq_ : World.drewN w15 _ = w15; have n0_ : Aside0 (w15.heap[gb337]? = some (.cells #[.slice A0_0 l0_0.length c0_0, .slice A0_1 l0_1.length c0_1, .slice A0_2 l0_2.length c0_2, .slice A0_3 l0_3.length c0_3, .slice A0_4 l0_4.length c0_4, .slice A0_5 l0_5.length c0_5] 38 (0, 0))) := ⟨by rw [← hq_]; exact (by (with_reducible repeat (refine blk_drewN ?_ _)); exact BK337.out)⟩; have n1_ : Aside0 (w15.heap[gb338]? = some (.cells #[.int .i64 0, .int .i64 0, .int .i64 0, .bool false] 80 (0, 0))) := ⟨by rw [← hq_]; exact (by (with_reducible repeat (refine blk_drewN ?_ _)); exact BK338.out)⟩; have n2_ : Aside0 (Below w.heap.size w w15) := ⟨by rw [← hq_]; exact (by repeat ((with_reducible first | exact HB.out | apply pw_below_drewN)))⟩; clear BK337 BK338 HB hq_; have BK337 := n0_; have BK338 := n1_; have HB := n2_; clear n0_ n1_ n2_)); have p340 : 0 ≤ (t339 : Int) := oD ‹_›; have q340 : t339 < (l1.length : Int) := oD ‹_›; obtain ⟨ad340, e340, hx340_0⟩ := Kd.at_int HR1.out t339 p340 q340; cases e340; replace hx340_0 := swB HB.out hx340_0; replace p340 := eq_true p340; replace q340 := eq_true q340; obtain ⟨hcz18_0, hcz18_1, hcz18_2, hcz18_3⟩ := swc4 BK338.out; obtain ⟨hfz18_0, hfz18_1, hfz18_2, hfz18_3⟩ := swf4 BK338.out))
  refine bodyPost_ret (results_ct rfl _ _ gb338 80 #[.int .i64 0, .int .i64 0, .int .i64 0, .bool false] (0, 0) _ rfl (by refine blk_put (cs := #[.int .i64 0, .int .i64 0, .int .i64 0, .bool false]) ?_ 3 _ rfl; refine blk_put (cs := #[.int .i64 0, .int .i64 0, .int .i64 0, .bool false]) ?_ 2 _ rfl; refine blk_put (cs := #[.int .i64 0, .int .i64 0, .int .i64 0, .bool false]) ?_ 1 _ rfl; refine blk_put (cs := #[.int .i64 0, .int .i64 0, .int .i64 0, .bool false]) ?_ 0 _ rfl; exact BK338.out) Try.underlying80 rfl (by kernel_rfl)) rfl ?_
  exact ⟨by rfl, by repeat ((with_reducible first | exact HB.out | refine below_set ?_ GE338.out))⟩
 rw [if_neg c13] at H
 have c13b0 : ((rd l1 t339) == 0) = false := beq_eq_false_iff_ne.mpr c13
 have c13b1 : ((rd l1 t339) != 0) = true := bne_iff_ne.mpr c13
 simp only [Option.some.injEq, Prod.mk.injEq] at H
 obtain ⟨rfl, rfl, rfl, rfl, rfl⟩ := H
 go_enter Try.func103, Try.ntmps103
 go_wp2_with (first | ((with_reducible refine gate_dst (N := 3) rfl ?_); refine box_event rfl (N := 3) rfl (cs := #[.slice A0_0 l0_0.length c0_0, .slice A0_1 l0_1.length c0_1, .slice A0_2 l0_2.length c0_2, .slice A0_3 l0_3.length c0_3, .slice A0_4 l0_4.length c0_4, .slice A0_5 l0_5.length c0_5]) (t := 38) (by go_simp; done) ?_; intro gb337 hg w19 hbox hb; have BK337 := aM (hbox); have GW337 := bGE HB.out hg; have GE337 := bGE HB.out hg; replace HB := aB HB hb; clear hb hbox hg) | ((with_reducible refine gate_dst (N := 6) rfl ?_); refine box_event rfl (N := 6) rfl (cs := #[.int .i64 0, .int .i64 0, .int .i64 0, .bool false]) (t := 80) (by go_simp; done) ?_; intro gb338 hg w20 hbox hb; have BK338 := aM (hbox); have GW338 := bGE HB.out hg; have GE338 := bGE HB.out hg; replace HB := aB HB hb; have NB337_338 := bLT BK337.out hg; have NB338_337 := bGT BK337.out hg; replace BK337 := aK BK337 hb; clear hb hbox hg; have hnb21 := NB337_338.out; have hnc21 := NB338_337.out; obtain ⟨hcz22_0, hcz22_1, hcz22_2, hcz22_3, hcz22_4, hcz22_5⟩ := swc6 BK337.out; obtain ⟨hfz22_0, hfz22_1, hfz22_2, hfz22_3, hfz22_4, hfz22_5⟩ := swf6 BK337.out) | (go_at_call 118; (with_reducible refine (slices_Index_int_int.calls k _ _ l0_3 a2 t339 _ (Kd.C_below HR0_3.out HB.out) HC0_3.out A4.out).mono ?_); rintro e w' ⟨rfl, ⟨nd, rfl⟩⟩; (try (rw [drewN_self w20]; generalize hq_ : World.drewN w20 _ = w20; have n0_ : Aside0 (w20.heap[gb337]? = some (.cells #[.slice A0_0 l0_0.length c0_0, .slice A0_1 l0_1.length c0_1, .slice A0_2 l0_2.length c0_2, .slice A0_3 l0_3.length c0_3, .slice A0_4 l0_4.length c0_4, .slice A0_5 l0_5.length c0_5] 38 (0, 0))) := ⟨by rw [← hq_]; exact (by (with_reducible repeat (refine blk_drewN ?_ _)); exact BK337.out)⟩; have n1_ : Aside0 (w20.heap[gb338]? = some (.cells #[.int .i64 0, .int .i64 0, .int .i64 0, .bool false] 80 (0, 0))) := ⟨by rw [← hq_]; exact (by (with_reducible repeat (refine blk_drewN ?_ _)); exact BK338.out)⟩; have n2_ : Aside0 (Below w.heap.size w w20) := ⟨by rw [← hq_]; exact (by repeat ((with_reducible first | exact HB.out | apply pw_below_drewN)))⟩; clear BK337 BK338 HB hq_; have BK337 := n0_; have BK338 := n1_; have HB := n2_; clear n0_ n1_ n2_)); have p340 : 0 ≤ (t339 : Int) := oD ‹_›; have q340 : t339 < (l1.length : Int) := oD ‹_›; obtain ⟨ad340, e340, hx340_0⟩ := Kd.at_int HR1.out t339 p340 q340; cases e340; replace hx340_0 := swB HB.out hx340_0; replace p340 := eq_true p340; replace q340 := eq_true q340; have p341 : 0 ≤ (t339 : Int) := oD ‹_›; have q341 : t339 < (l1.length : Int) := oD ‹_›; obtain ⟨ad341, e341, hx341_0⟩ := Kd.at_int HR1.out t339 p341 q341; obtain rfl : ad340 = ad341 := (by injection e341); replace hx341_0 := swB HB.out hx341_0; replace p341 := eq_true p341; replace q341 := eq_true q341; obtain ⟨hcz23_0, hcz23_1, hcz23_2, hcz23_3⟩ := swc4 BK338.out; obtain ⟨hfz23_0, hfz23_1, hfz23_2, hfz23_3⟩ := swf4 BK338.out))
 refine bodyPost_ret (results_ct rfl _ _ gb338 80 #[.int .i64 (-1), .int .i64 100, .int .i64 2, .bool ((rd l1 t339) == 2)] (0, 0) _ rfl (by refine blk_put (cs := #[.int .i64 (-1), .int .i64 100, .int .i64 2, .bool false]) ?_ 3 _ rfl; refine blk_put (cs := #[.int .i64 (-1), .int .i64 100, .int .i64 0, .bool false]) ?_ 2 _ rfl; refine blk_put (cs := #[.int .i64 (-1), .int .i64 0, .int .i64 0, .bool false]) ?_ 1 _ rfl; refine blk_put (cs := #[.int .i64 0, .int .i64 0, .int .i64 0, .bool false]) ?_ 0 _ rfl; exact BK338.out) Try.underlying80 rfl (by kernel_rfl)) rfl ?_
 exact ⟨by rfl, by repeat ((with_reducible first | exact HB.out | refine below_set ?_ GE338.out))⟩
def s105_1_T : Bool × List (List Nat × List Nat) := (true, [([], []), ([], []), ([1], [1]), ([], []), ([3], [3]), ([], []), ([], []), ([], []), ([5, 6, 7], [5, 6, 7]), ([4, 8], [4, 8]), ([9], [9]), ([10], [10]), ([2, 11], [2, 11]), ([], []), ([13], [13]), ([0, 12, 14], [0, 12, 14]), ([], []), ([16, 15, 8, 0, 1, 2, 3, 4, 5, 6, 7, 8, 9, 10, 11, 12, 13, 14, 15, 16], [15, 16])])
theorem s105_1_tab : rtab .any (opsOf Try.f105 1) = s105_1_T := by kernel_rfl
def impI (a b : Int) : List S95 → Int → Bool → Option (Int × Bool)
 | [], p, m => some (p, m)
 | x :: r, p, m => if ((((x.f0 != a) || (x.f1 != b)) || ((x.f2 == 1) && (!m))) || ((x.f2 == 2) && m)) = true then impI a b r p m else (if (x.f3 == 1) = true then none else (if (x.f3 == 2) = true then impI a b r x.f4 m else (if (x.f3 == 3) = true then impI a b r p true else (if (x.f3 == 4) = true then impI a b r p false else impI a b r p m))))
def resI (a L : Int) : Option (Int × Bool) → Int × Int × Int × Bool × Bool
 | none => (0, 0, 0, false, false)
 | some q => (a, q.1, L, q.2, true)
def impl_imported.f (k : Nat) (l0_0 : List ByteArray) (l0_1 : List S92) (l0_2 : List Int) (l0_3 : List Int) (l0_4 : List S95) (l0_5 : List S97) (a1 : Int) (a2 : Int) (a3_0 : Int) (a3_1 : Int) (a3_2 : Int) (a3_3 : Bool) : Option (Int × Int × Int × Bool × Bool) := if 0 ≤ (linkI l0_1 a1 a2) ∧ (linkI l0_1 a1 a2) < (l0_1.length : Int) then some (resI a2 (wrap64 (a3_2 + (rd_T92 l0_1 (linkI l0_1 a1 a2)).f2)) (impI a1 a2 l0_4 100 a3_3)) else none
theorem impl_imported.calls (k : Nat) (A0_0 : Option Addr) (c0_0 : Nat) (l0_0 : List ByteArray) (A0_1 : Option Addr) (c0_1 : Nat) (l0_1 : List S92) (A0_2 : Option Addr) (c0_2 : Nat) (l0_2 : List Int) (A0_3 : Option Addr) (c0_3 : Nat) (l0_3 : List Int) (A0_4 : Option Addr) (c0_4 : Nat) (l0_4 : List S95) (A0_5 : Option Addr) (c0_5 : Nat) (l0_5 : List S97) (a1 : Int) (a2 : Int) (a3_0 : Int) (a3_1 : Int) (a3_2 : Int) (a3_3 : Bool) (r1 : Int) (r2 : Int) (r3 : Int) (r4 : Bool) (r5 : Bool) (w : World) (hr0_0 : Kd.C Kd.string w A0_0 l0_0.length l0_0) (hc0_0 : l0_0.length ≤ c0_0) (hr0_1 : Kd.C k92 w A0_1 l0_1.length l0_1) (hc0_1 : l0_1.length ≤ c0_1) (hr0_2 : Kd.C (Kd.int .i64) w A0_2 l0_2.length l0_2) (hc0_2 : l0_2.length ≤ c0_2) (hr0_3 : Kd.C (Kd.int .i64) w A0_3 l0_3.length l0_3) (hc0_3 : l0_3.length ≤ c0_3) (hr0_4 : Kd.C k95 w A0_4 l0_4.length l0_4) (hc0_4 : l0_4.length ≤ c0_4) (hr0_5 : Kd.C k97 w A0_5 l0_5.length l0_5) (hc0_5 : l0_5.length ≤ c0_5) (h : impl_imported.f k l0_0 l0_1 l0_2 l0_3 l0_4 l0_5 a1 a2 a3_0 a3_1 a3_2 a3_3 = some (r1, r2, r3, r4, r5)) :
  Calls Try.prog 105 #[.agg #[.slice A0_0 l0_0.length c0_0, .slice A0_1 l0_1.length c0_1, .slice A0_2 l0_2.length c0_2, .slice A0_3 l0_3.length c0_3, .slice A0_4 l0_4.length c0_4, .slice A0_5 l0_5.length c0_5], .int .i64 a1, .int .i64 a2, .agg #[.int .i64 a3_0, .int .i64 a3_1, .int .i64 a3_2, .bool a3_3]] w fun e w' => e = .returned (.tuple #[.agg #[.int .i64 r1, .int .i64 r2, .int .i64 r3, .bool r4], .bool r5]) ∧ Below w.heap.size w w' := by
 have hu38 := Try.underlying38
 have hu80 := Try.underlying80
 have hu92 := Try.underlying92
 have hu95 := Try.underlying95
 have HN : Aside0 (Kd.C Kd.string w A0_0 l0_0.length l0_0 ∧ l0_0.length ≤ c0_0 ∧ Kd.C k92 w A0_1 l0_1.length l0_1 ∧ l0_1.length ≤ c0_1 ∧ Kd.C (Kd.int .i64) w A0_2 l0_2.length l0_2 ∧ l0_2.length ≤ c0_2 ∧ Kd.C (Kd.int .i64) w A0_3 l0_3.length l0_3 ∧ l0_3.length ≤ c0_3 ∧ Kd.C k95 w A0_4 l0_4.length l0_4 ∧ l0_4.length ≤ c0_4 ∧ Kd.C k97 w A0_5 l0_5.length l0_5 ∧ l0_5.length ≤ c0_5) := ⟨hr0_0, hc0_0, hr0_1, hc0_1, hr0_2, hc0_2, hr0_3, hc0_3, hr0_4, hc0_4, hr0_5, hc0_5⟩
 have HM : Aside0 (l0_1.length ≤ 9223372036854775807 ∧ l0_4.length ≤ 9223372036854775807) := ⟨Kd.C_max hr0_1, Kd.C_max hr0_4⟩
 clear hr0_0 hc0_0 hr0_1 hc0_1 hr0_2 hc0_2 hr0_3 hc0_3 hr0_4 hc0_4 hr0_5 hc0_5
 have HB := aM (Below.refl w.heap.size w)
 unfold impl_imported.f at h
 obtain ⟨t, ht⟩ : ∃ t, linkI l0_1 a1 a2 = t := ⟨_, rfl⟩
 rw [ht] at h
 by_cases hbd : 0 ≤ t ∧ t < (l0_1.length : Int)
 rotate_left
 ·rw [if_neg hbd] at h
  cases h
 rw [if_pos hbd] at h
 obtain ⟨ad, ea, hy0, hy1, hy2⟩ := at_T92 HN.out.2.2.1 t hbd.1 hbd.2
 cases ea
 have HCO := aM hy2
 have HMB := aM hbd
 replace h := Option.some.inj h
 generalize rd_T92 l0_1 t = y at h HCO
 obtain ⟨y0, y1, cost⟩ := y
 dsimp only at h HCO
 obtain ⟨R, hR⟩ : ∃ R, impI a1 a2 l0_4 100 a3_3 = R := ⟨_, rfl⟩
 rw [hR] at h
 have HR := aM h
 have HI : Aside0 (impI a1 a2 (l0_4.drop 0) 100 a3_3 = R) := ⟨by rw [List.drop_zero]; exact hR⟩
 have HC : Aside0 (∀ V : World, Below w.heap.size w V → Calls Try.prog 89 #[.agg #[.slice A0_0 l0_0.length c0_0, .slice (some ad) l0_1.length c0_1, .slice A0_2 l0_2.length c0_2, .slice A0_3 l0_3.length c0_3, .slice A0_4 l0_4.length c0_4, .slice A0_5 l0_5.length c0_5], .int .i64 a1, .int .i64 a2] V fun e w' => e = .returned (.int .i64 t) ∧ Below V.heap.size V w') := ⟨fun V hV => impl_linkOf.calls A0_0 c0_0 l0_0 (some ad) c0_1 l0_1 A0_2 c0_2 l0_2 A0_3 c0_3 l0_3 A0_4 c0_4 l0_4 A0_5 c0_5 l0_5 a1 a2 t V (Kd.C_below HN.out.1 hV) HN.out.2.1 (Kd.C_below HN.out.2.2.1 hV) HN.out.2.2.2.1 (Kd.C_below HN.out.2.2.2.2.1 hV) HN.out.2.2.2.2.2.1 (Kd.C_below HN.out.2.2.2.2.2.2.1 hV) HN.out.2.2.2.2.2.2.2.1 (Kd.C_below HN.out.2.2.2.2.2.2.2.2.1 hV) HN.out.2.2.2.2.2.2.2.2.2.1 (Kd.C_below HN.out.2.2.2.2.2.2.2.2.2.2.1 hV) HN.out.2.2.2.2.2.2.2.2.2.2.2 (by unfold impl_linkOf.f; exact congrArg some ht)⟩
 clear hy0 hy1 hy2 h hR ht hbd
 go_enter Try.func105, Try.ntmps105
 go_wp2_with (first | ((with_reducible refine gate_dst (N := 4) rfl ?_); refine box_event rfl (N := 4) rfl (cs := #[.slice A0_0 l0_0.length c0_0, .slice (some ad) l0_1.length c0_1, .slice A0_2 l0_2.length c0_2, .slice A0_3 l0_3.length c0_3, .slice A0_4 l0_4.length c0_4, .slice A0_5 l0_5.length c0_5]) (t := 38) (by go_simp; done) ?_; intro gN hg_ wN hbox hbb; have GEN := aM (show w.heap.size ≤ gN by rw [hg_]; exact HB.out.size); replace HB := aM (HB.out.trans (hbb.mono HB.out.size)); clear hbb hg_; have BN := aM hbox; clear hbox; obtain ⟨cN0, cN1, cN2, cN3, cN4, cN5⟩ := box6 BN.out) | ((with_reducible refine gate_dst (N := 7) rfl ?_); refine box_event rfl (N := 7) rfl (cs := #[.int .i64 a3_0, .int .i64 a3_1, .int .i64 a3_2, .bool a3_3]) (t := 80) (by go_simp; done) ?_; intro gP hg_ wP hbox hbb; clear cN0 cN1 cN2 cN3 cN4 cN5; have GEP := aM (show w.heap.size ≤ gP by rw [hg_]; exact HB.out.size); have NENP := aM (show gN ≠ gP by rw [hg_]; exact Nat.ne_of_lt (blk_lt BN.out)); replace HB := aM (HB.out.trans (hbb.mono HB.out.size)); replace BN := aM (blk_below BN.out hbb); clear hbb hg_; have BP := aM hbox; clear hbox; obtain ⟨cN0, cN1, cN2, cN3, cN4, cN5⟩ := box6 BN.out; obtain ⟨cP0, cP1, cP2, cP3⟩ := box4 BP.out) | ((with_reducible refine gate_dst (N := 8) rfl ?_); refine box_event rfl (N := 8) rfl (cs := #[.int .i64 0, .int .i64 0, .int .i64 0, .bool false]) (t := 80) (by go_simp; done) ?_; intro gO hg_ wO hbox hbb; clear cN0 cN1 cN2 cN3 cN4 cN5 cP0 cP1 cP2 cP3; have GEO := aM (show w.heap.size ≤ gO by rw [hg_]; exact HB.out.size); have NENO := aM (show gN ≠ gO by rw [hg_]; exact Nat.ne_of_lt (blk_lt BN.out)); have NEPO := aM (show gP ≠ gO by rw [hg_]; exact Nat.ne_of_lt (blk_lt BP.out)); replace HB := aM (HB.out.trans (hbb.mono HB.out.size)); replace BN := aM (blk_below BN.out hbb); replace BP := aM (blk_below BP.out hbb); clear hbb hg_; have BO := aM hbox; clear hbox; obtain ⟨cN0, cN1, cN2, cN3, cN4, cN5⟩ := box6 BN.out; obtain ⟨cP0, cP1, cP2, cP3⟩ := box4 BP.out; obtain ⟨cO0, cO1, cO2, cO3⟩ := box4 BO.out))
 clear cN0 cN1 cN2 cN3 cN4 cN5 cP0 cP1 cP2 cP3 cO0 cO1 cO2 cO3
 have HW : ∀ W, Below wO.drew.heap.size wO.drew W → Below w.heap.size w W := fun W hW => (below_drew1 HB.out).trans (hW.mono HB.out.size)
 have dN := fun (W : World) (hW : Below wO.drew.heap.size wO.drew W) => blk_below (blk_drew BN.out) hW
 have dP := fun (W : World) (hW : Below wO.drew.heap.size wO.drew W) => blk_below (blk_drew BP.out) hW
 have dO := fun (W : World) (hW : Below wO.drew.heap.size wO.drew W) => blk_below (blk_drew BO.out) hW
 refine any_tail [some 13, some 14, some 15, some 16, some 17, some 18, some 19, some 20, some 21, some 22, some 23, some 24, some 25, some 26, some 27, some 28, some 10, none] 83 17 [0, 0, 2, 0, 8, 0, 0, 0, 224, 504, 1016, 2040, 4094, 0, 8192, 32767, 0, 131071] [VP.eq (.int .i64 (a2)), VP.eq (.pointer (some ⟨gP, 2, none⟩)), VP.eq (.int .i64 (a3_2)), VP.eq (.pointer (some ⟨gN, 1, none⟩)), VP.eq (.slice (some ad) l0_1.length c0_1), VP.eq (.agg #[.slice A0_0 l0_0.length c0_0, .slice (some ad) l0_1.length c0_1, .slice A0_2 l0_2.length c0_2, .slice A0_3 l0_3.length c0_3, .slice A0_4 l0_4.length c0_4, .slice A0_5 l0_5.length c0_5]), VP.eq (.int .i64 (a1)), VP.eq (.int .i64 (a2)), VP.eq (.int .i64 (t)), VP.eq (.pointer (some (ad.add (t.toNat * 3)))), VP.eq (.pointer (some (⟨(ad.add (t.toNat * 3)).block, (ad.add (t.toNat * 3)).off + 2, none⟩))), VP.eq (.int .i64 (cost)), VP.eq (.int .i64 (wrap64 (a3_2 + cost))), VP.eq (.pointer (some ⟨gP, 3, none⟩)), VP.eq (.bool (a3_3)), VP.eq (.agg #[.int .i64 (a2), .int .i64 (100), .int .i64 (wrap64 (a3_2 + cost)), .bool (a3_3)]), VP.box (wO.heap.size) #[.int .i64 0, .int .i64 0, .int .i64 0, .bool false] 80] rfl s105_1_tab rfl rfl (by kernel_rfl) rfl ⟨?_, ?_, ?_, ?_, ?_, ?_, ?_, ?_, ?_, ?_, ?_, ?_, ?_, ?_, ?_, ?_, ?_, trivial⟩ ?_
 ·exact fun _ W _ hW _ hb hd _ hK _ => gd_step (C := true) wn_ (fun _ => x_move rfl (hb 2)) (hK _ W rfl (Below.refl _ _))
 ·exact fun _ W _ hW _ hb hd _ hK _ => gd_step (C := true) wn_ (fun _ => x_fa80 rfl (oD (by kernel_rfl)) (hb 7)) (hK _ W rfl (Below.refl _ _))
 ·exact fun _ W _ hW _ hb hd _ hK _ => gd_step (C := true) wn_ (fun _ => x_ld3 rfl (hd 1 14) ((blk_cell (dP W hW) 2).trans rfl)) (hK _ W rfl (Below.refl _ _))
 ·exact fun _ W _ hW _ hb hd _ hK _ => gd_step (C := true) wn_ (fun _ => x_fa38 rfl (oD (by kernel_rfl)) (hb 4)) (hK _ W rfl (Below.refl _ _))
 ·exact fun _ W _ hW _ hb hd _ hK _ => gd_step (C := true) wn_ (fun _ => x_ld34 rfl (hd 3 16) ((blk_cell (dN W hW) 1).trans rfl)) (hK _ W rfl (Below.refl _ _))
 ·exact fun _ W _ hW _ hb hd _ hK _ => gd_step (C := true) wn_ (fun _ => x_ld38 rfl (hb 4) (dN W hW)) (hK _ W rfl (Below.refl _ _))
 ·exact fun _ W _ hW _ hb hd _ hK _ => gd_step (C := true) wn_ (fun _ => x_move rfl (hb 1)) (hK _ W rfl (Below.refl _ _))
 ·exact fun _ W _ hW _ hb hd _ hK _ => gd_step (C := true) wn_ (fun _ => x_move rfl (hb 2)) (hK _ W rfl (Below.refl _ _))
 ·intro bq W B hW hB hb hd K hK hK2; exact gc_step (C := true) wn_ (fun _ => ⟨x_call Try.func89 (by kernel_rfl) rfl rfl (args3 (hd 5 18) (hd 6 19) (hd 7 20)), (HC.out W (HW W hW)).mono (fun e_ W_ h_ => ⟨h_.1, h_.2⟩)⟩) (fun W_ hb_ => hK _ W_ rfl hb_)
 ·exact fun _ W _ hW _ hb hd _ hK _ => gd_step (C := true) wn_ (fun _ => x_ix34 rfl (hd 4 17) (hd 8 21) HMB.out.1 HMB.out.2 HM.out.1) (hK _ W rfl (Below.refl _ _))
 ·exact fun _ W _ hW _ hb hd _ hK _ => gd_step (C := true) wn_ (fun _ => x_fb92 rfl (hd 9 22)) (hK _ W rfl (Below.refl _ _))
 ·exact fun _ W _ hW _ hb hd _ hK _ => gd_step (C := true) wn_ (fun _ => x_ld3 rfl (hd 10 23) (((HW W hW).cell (World.block_lt_of_cell? w _ HCO.out)).trans HCO.out)) (hK _ W rfl (Below.refl _ _))
 ·exact fun _ W _ hW _ hb hd _ hK _ => gd_step (C := true) wn_ (fun _ => x_add rfl (hd 2 15) (hd 11 24) (i64_w _)) (hK _ W rfl (Below.refl _ _))
 ·exact fun _ W _ hW _ hb hd _ hK _ => gd_step (C := true) wn_ (fun _ => x_fa80 rfl (oD (by kernel_rfl)) (hb 7)) (hK _ W rfl (Below.refl _ _))
 ·exact fun _ W _ hW _ hb hd _ hK _ => gd_step (C := true) wn_ (fun _ => x_ld4 rfl (hd 13 26) ((blk_cell (dP W hW) 3).trans rfl)) (hK _ W rfl (Below.refl _ _))
 ·exact fun _ W _ hW _ hb hd _ hK _ => gd_step (C := true) wn_ (fun _ => x_bdr rfl (hd 0 13) (hd 12 25) (hd 14 27)) (hK _ W rfl (Below.refl _ _))
 ·intro bq W B hW hB hb hd K hK hK2; refine al_step80 rfl rfl (fun W' h_ hb_ hl_ => hK2 _ W' ?_ hb_ hl_); obtain ⟨g_, e_, h1_, h2_, h3_⟩ := h_; exact ⟨g_, e_, Nat.le_trans hW.size h1_, .inr h2_, h3_⟩
 intro vals F W B hF hW hBB hV
 obtain ⟨gX, e9, hg9, -, hx9⟩ := hV 16 10 (oD (by kernel_rfl)) rfl
 have e28 : vals 28 = .agg #[.int .i64 a2, .int .i64 100, .int .i64 (wrap64 (a3_2 + cost)), .bool a3_3] := hV 15 28 (oD (by kernel_rfl)) rfl
 have GEX := aM (Nat.le_trans HB.out.size hg9)
 have NENX := aM (show gN ≠ gX from Nat.ne_of_lt (Nat.lt_of_lt_of_le (blk_lt BN.out) hg9))
 have NEPX := aM (show gP ≠ gX from Nat.ne_of_lt (Nat.lt_of_lt_of_le (blk_lt BP.out) hg9))
 have NEOX := aM (show gO ≠ gX from Nat.ne_of_lt (Nat.lt_of_lt_of_le (blk_lt BO.out) hg9))
 replace HB := aM (HW W hW)
 replace BN := aM (dN W hW)
 replace BP := aM (dP W hW)
 replace BO := aM (dO W hW)
 have BX := aM hx9
 clear hV hBB hg9 hx9 hW HW dN dP dO
 rw [hF]
 clear hF
 simp only [List.take, fillA, Act.put, List.setIfInBounds_toArray, List.set_cons_zero, List.set_cons_succ, List.drop_succ_cons, List.drop_zero, e9, e28]
 clear e9 e28 BP
 obtain ⟨cN0, cN1, cN2, cN3, cN4, cN5⟩ := box6 BN.out
 obtain ⟨cO0, cO1, cO2, cO3⟩ := box4 BO.out
 obtain ⟨cX0, cX1, cX2, cX3⟩ := box4 BX.out
 go_wp2_with (((with_reducible refine gate_store (t := 80) (p := 10) rfl ?_); have z0 := blk_frozen BX.out 0; have z1 := blk_frozen BX.out 1; have z2 := blk_frozen BX.out 2; have z3 := blk_frozen BX.out 3; refine store_event (t := 80) (p := 10) (v := .tmp 28) (w1 := ((((W.setCell ⟨gX, 0, none⟩ (.int .i64 a2)).setCell ⟨gX, 1, none⟩ (.int .i64 100)).setCell ⟨gX, 2, none⟩ (.int .i64 (wrap64 (a3_2 + cost)))).setCell ⟨gX, 3, none⟩ (.bool a3_3))) ?hg ?ho ?hn ?hr ?_; (case ho => rfl); (case hg => rfl); (case hn => rfl); (case hr => (go_simp; done)); clear z0 z1 z2 z3; clear cN0 cN1 cN2 cN3 cN4 cN5 cO0 cO1 cO2 cO3 cX0 cX1 cX2 cX3; intro w9 hw_; obtain ⟨hbk, hkb, hkw⟩ := boxv4 (v0 := .int .i64 a2) (v1 := .int .i64 100) (v2 := .int .i64 (wrap64 (a3_2 + cost))) (v3 := .bool a3_3) BX.out; rw [← hw_] at hbk hkb hkw; clear hw_; replace HB := aM (hkw _ HB.out GEX.out); replace BN := aM (blk_kept BN.out hkb (fun h_ => NENX.out h_)); replace BO := aM (blk_kept BO.out hkb (fun h_ => NEOX.out h_)); replace BX := aM (hbk); clear hbk hkb hkw; obtain ⟨cN0, cN1, cN2, cN3, cN4, cN5⟩ := box6 BN.out; obtain ⟨cO0, cO1, cO2, cO3⟩ := box4 BO.out; obtain ⟨cX0, cX1, cX2, cX3⟩ := box4 BX.out))
 clear cN0 cN1 cN2 cN3 cN4 cN5 cO0 cO1 cO2 cO3 cX0 cX1 cX2 cX3
 go_loopg [32] l0_4.length (fun gg sc wr => ∃ (kk : Nat) (p : Int) (m : Bool), kk ≤ l0_4.length ∧ l0_4.length - kk ≤ gg ∧ sc = .int .i64 kk ∧ Aside0 (Below w.heap.size w wr) ∧ Aside0 (wr.heap[gN]? = some (.cells #[.slice A0_0 l0_0.length c0_0, .slice (some ad) l0_1.length c0_1, .slice A0_2 l0_2.length c0_2, .slice A0_3 l0_3.length c0_3, .slice A0_4 l0_4.length c0_4, .slice A0_5 l0_5.length c0_5] 38 (0, 0))) ∧ Aside0 (wr.heap[gO]? = some (.cells #[.int .i64 0, .int .i64 0, .int .i64 0, .bool false] 80 (0, 0))) ∧ Aside0 (wr.heap[gX]? = some (.cells #[.int .i64 a2, .int .i64 p, .int .i64 (wrap64 (a3_2 + cost)), .bool m] 80 (0, 0))) ∧ Aside0 (impI a1 a2 (l0_4.drop kk) p m = R))
 case atStart => exact ⟨0, 100, a3_3, Nat.zero_le _, by omega, rfl, HB, BN, BO, BX, HI⟩
 clear HB BN BO BX HI
 obtain ⟨kk, p, m, hkk, hg, rfl, HB, BN, BO, BX, HI⟩ := hrel
 have hN := HI.out
 have HM0 := HM.out.2
 clear HI
 by_cases hlt : kk < l0_4.length
 rotate_left
 ·have hltz : ¬ (kk : Int) < (l0_4.length : Int) := by omega
  obtain rfl : kk = l0_4.length := by omega
  rw [List.drop_length, impI] at hN
  subst hN
  have hq := HR.out
  simp only [resI, Prod.mk.injEq] at hq
  obtain ⟨rfl, rfl, rfl, rfl, rfl⟩ := hq
  obtain ⟨cN0, cN1, cN2, cN3, cN4, cN5⟩ := box6 BN.out
  obtain ⟨cO0, cO1, cO2, cO3⟩ := box4 BO.out
  obtain ⟨cX0, cX1, cX2, cX3⟩ := box4 BX.out
  go_wp2_with (((with_reducible refine gate_store (t := 80) (p := 8) rfl ?_); have z0 := blk_frozen BO.out 0; have z1 := blk_frozen BO.out 1; have z2 := blk_frozen BO.out 2; have z3 := blk_frozen BO.out 3; refine store_event (t := 80) (p := 8) (v := .tmp 82) (w1 := ((((wr.setCell ⟨gO, 0, none⟩ (.int .i64 a2)).setCell ⟨gO, 1, none⟩ (.int .i64 p)).setCell ⟨gO, 2, none⟩ (.int .i64 (wrap64 (a3_2 + cost)))).setCell ⟨gO, 3, none⟩ (.bool m))) ?hg ?ho ?hn ?hr ?_; (case ho => rfl); (case hg => rfl); (case hn => rfl); (case hr => (go_simp; done)); clear z0 z1 z2 z3; clear cN0 cN1 cN2 cN3 cN4 cN5 cO0 cO1 cO2 cO3 cX0 cX1 cX2 cX3; intro wz hw_; obtain ⟨hbk, hkb, hkw⟩ := boxv4 (v0 := .int .i64 a2) (v1 := .int .i64 p) (v2 := .int .i64 (wrap64 (a3_2 + cost))) (v3 := .bool m) BO.out; rw [← hw_] at hbk hkb hkw; clear hw_; replace HB := aM (hkw _ HB.out GEO.out); replace BN := aM (blk_kept BN.out hkb (fun h_ => NENO.out h_)); replace BO := aM (hbk); replace BX := aM (blk_kept BX.out hkb (fun h_ => NEOX.out h_.symm)); clear hbk hkb hkw; obtain ⟨cN0, cN1, cN2, cN3, cN4, cN5⟩ := box6 BN.out; obtain ⟨cO0, cO1, cO2, cO3⟩ := box4 BO.out; obtain ⟨cX0, cX1, cX2, cX3⟩ := box4 BX.out))
  refine bodyPost_ret (results_ct rfl _ _ gO 80 #[.int .i64 a2, .int .i64 p, .int .i64 (wrap64 (a3_2 + cost)), .bool m] (0, 0) _ rfl BO.out Try.underlying80 rfl (by kernel_rfl)) rfl ?_
  exact ⟨rfl, HB.out⟩
 have hltz : (kk : Int) < (l0_4.length : Int) := by omega
 have hkc0 : (0 : Int) ≤ (kk : Int) := Int.natCast_nonneg _
 obtain ⟨ae, ea, hx0, hx1, hx2, hx3, hx4⟩ := at_T95 HN.out.2.2.2.2.2.2.2.2.1 (kk : Int) (by omega) (by omega)
 cases ea
 rw [Int.toNat_natCast] at hx0 hx1 hx2 hx3 hx4
 replace hx0 := swB HB.out hx0
 replace hx1 := swB HB.out hx1
 replace hx2 := swB HB.out hx2
 replace hx3 := swB HB.out hx3
 replace hx4 := swB HB.out hx4
 have hrd : rd_T95 l0_4 (kk : Int) = l0_4[kk] := by unfold rd_T95; simp [List.getD, hlt]
 rw [hrd] at hx0 hx1 hx2 hx3 hx4
 rw [List.drop_eq_getElem_cons hlt, impI] at hN
 have ew : IntKind.i64.wrap ((kk : Int) + 1) = ((kk + 1 : Nat) : Int) := IntWalk.i64_in _ (by omega)
 clear hrd
 generalize l0_4[kk] = x at hN hx0 hx1 hx2 hx3 hx4
 obtain ⟨x0, x1, x2, x3, x4⟩ := x
 dsimp only at hN hx0 hx1 hx2 hx3 hx4
 obtain ⟨cN0, cN1, cN2, cN3, cN4, cN5⟩ := box6 BN.out
 obtain ⟨cO0, cO1, cO2, cO3⟩ := box4 BO.out
 obtain ⟨cX0, cX1, cX2, cX3⟩ := box4 BX.out
 go_upto_region 5 with (first | ((with_reducible refine gate_dst (N := 12) rfl ?_); refine box_event rfl (N := 12) rfl (cs := #[.int .i64 0, .int .i64 0, .int .i64 0, .int .i64 0, .int .i64 0]) (t := 95) (by go_simp; done) ?_; intro gI hg_ wI hbox hbb; clear cN0 cN1 cN2 cN3 cN4 cN5 cO0 cO1 cO2 cO3 cX0 cX1 cX2 cX3; have GEI := aM (show w.heap.size ≤ gI by rw [hg_]; exact HB.out.size); have NENI := aM (show gN ≠ gI by rw [hg_]; exact Nat.ne_of_lt (blk_lt BN.out)); have NEOI := aM (show gO ≠ gI by rw [hg_]; exact Nat.ne_of_lt (blk_lt BO.out)); have NEXI := aM (show gX ≠ gI by rw [hg_]; exact Nat.ne_of_lt (blk_lt BX.out)); replace HB := aM (HB.out.trans (hbb.mono HB.out.size)); replace BN := aM (blk_below BN.out hbb); replace BO := aM (blk_below BO.out hbb); replace BX := aM (blk_below BX.out hbb); clear hbb hg_; have BI := aM hbox; clear hbox; obtain ⟨cN0, cN1, cN2, cN3, cN4, cN5⟩ := box6 BN.out; obtain ⟨cO0, cO1, cO2, cO3⟩ := box4 BO.out; obtain ⟨cX0, cX1, cX2, cX3⟩ := box4 BX.out; obtain ⟨cI0, cI1, cI2, cI3, cI4⟩ := box5 BI.out) | ((with_reducible refine gate_store (t := 95) (p := 12) rfl ?_); have z0 := blk_frozen BI.out 0; have z1 := blk_frozen BI.out 1; have z2 := blk_frozen BI.out 2; have z3 := blk_frozen BI.out 3; have z4 := blk_frozen BI.out 4; refine store_event (t := 95) (p := 12) (v := .tmp 35) (w1 := (((((wI.setCell ⟨gI, 0, none⟩ (.int .i64 x0)).setCell ⟨gI, 1, none⟩ (.int .i64 x1)).setCell ⟨gI, 2, none⟩ (.int .i64 x2)).setCell ⟨gI, 3, none⟩ (.int .i64 x3)).setCell ⟨gI, 4, none⟩ (.int .i64 x4))) ?hg ?ho ?hn ?hr ?_; (case ho => rfl); (case hg => rfl); (case hn => rfl); (case hr => (go_simp; done)); clear z0 z1 z2 z3 z4; clear cN0 cN1 cN2 cN3 cN4 cN5 cO0 cO1 cO2 cO3 cX0 cX1 cX2 cX3 cI0 cI1 cI2 cI3 cI4; intro w8 hw_; obtain ⟨hbk, hkb, hkw⟩ := boxv5 (v0 := .int .i64 x0) (v1 := .int .i64 x1) (v2 := .int .i64 x2) (v3 := .int .i64 x3) (v4 := .int .i64 x4) BI.out; rw [← hw_] at hbk hkb hkw; clear hw_; replace HB := aM (hkw _ HB.out GEI.out); replace BN := aM (blk_kept BN.out hkb (fun h_ => NENI.out h_)); replace BO := aM (blk_kept BO.out hkb (fun h_ => NEOI.out h_)); replace BX := aM (blk_kept BX.out hkb (fun h_ => NEXI.out h_)); replace BI := aM (hbk); clear hbk hkb hkw; obtain ⟨cN0, cN1, cN2, cN3, cN4, cN5⟩ := box6 BN.out; obtain ⟨cO0, cO1, cO2, cO3⟩ := box4 BO.out; obtain ⟨cX0, cX1, cX2, cX3⟩ := box4 BX.out; obtain ⟨cI0, cI1, cI2, cI3, cI4⟩ := box5 BI.out))
 clear hx0 hx1 hx2 hx3 hx4 cN0 cN1 cN2 cN3 cN4 cN5 cO0 cO1 cO2 cO3 cX0 cX1 cX2 cX3 cI0 cI1 cI2 cI3 cI4
 have HW : ∀ W, Below w8.heap.size w8 W → Below w.heap.size w W := fun W hW => HB.out.trans (hW.mono HB.out.size)
 have dN := fun (W : World) (hW : Below w8.heap.size w8 W) => blk_below BN.out hW
 have dO := fun (W : World) (hW : Below w8.heap.size w8 W) => blk_below BO.out hW
 have dX := fun (W : World) (hW : Below w8.heap.size w8 W) => blk_below BX.out hW
 have dI := fun (W : World) (hW : Below w8.heap.size w8 W) => blk_below BI.out hW
 refine seq_tail (R := []) [some 36, some 37, some 38, some 39, some 40, some 41, some 42, some 43, some 44, some 45, some 46, some 47, some 48, some 49, some 50, some 51, some 52, some 53, some 54, some 55, some 56, some 57, some 58, some 59, some 60, some 61, some 62, some 63, some 64] 83 29 [VP.eq (.pointer (some ⟨gI, 0, none⟩)), VP.eq (.int .i64 (x0)), VP.eq (.int .i64 (a1)), VP.eq (.bool ((x0 != a1))), VP.eq (.bool ((x0 != a1))), VP.eq (cond (((x0 != a1) == false)) (.pointer (some ⟨gI, 1, none⟩)) undef), VP.eq (cond (((x0 != a1) == false)) (.int .i64 (x1)) undef), VP.eq (cond (((x0 != a1) == false)) (.int .i64 (a2)) undef), VP.eq (cond (((x0 != a1) == false)) (.bool ((x1 != a2))) undef), VP.eq (.bool (((x0 != a1) || (x1 != a2)))), VP.eq (.bool (((x0 != a1) || (x1 != a2)))), VP.eq (cond ((((x0 != a1) || (x1 != a2)) == false)) (.pointer (some ⟨gI, 2, none⟩)) undef), VP.eq (cond ((((x0 != a1) || (x1 != a2)) == false)) (.int .i64 (x2)) undef), VP.eq (cond ((((x0 != a1) || (x1 != a2)) == false)) (.bool ((x2 == 1))) undef), VP.eq (cond ((((x0 != a1) || (x1 != a2)) == false)) (.bool ((x2 == 1))) undef), VP.eq (cond (((((x0 != a1) || (x1 != a2)) == false) && ((x2 == 1) == true))) (.pointer (some ⟨gX, 3, none⟩)) undef), VP.eq (cond (((((x0 != a1) || (x1 != a2)) == false) && ((x2 == 1) == true))) (.bool (m)) undef), VP.eq (cond (((((x0 != a1) || (x1 != a2)) == false) && ((x2 == 1) == true))) (.bool ((!m))) undef), VP.eq (cond ((((x0 != a1) || (x1 != a2)) == false)) (.bool (((x2 == 1) && (!m)))) undef), VP.eq (.bool ((((x0 != a1) || (x1 != a2)) || ((x2 == 1) && (!m))))), VP.eq (.bool ((((x0 != a1) || (x1 != a2)) || ((x2 == 1) && (!m))))), VP.eq (cond (((((x0 != a1) || (x1 != a2)) || ((x2 == 1) && (!m))) == false)) (.pointer (some ⟨gI, 2, none⟩)) undef), VP.eq (cond (((((x0 != a1) || (x1 != a2)) || ((x2 == 1) && (!m))) == false)) (.int .i64 (x2)) undef), VP.eq (cond (((((x0 != a1) || (x1 != a2)) || ((x2 == 1) && (!m))) == false)) (.bool ((x2 == 2))) undef), VP.eq (cond (((((x0 != a1) || (x1 != a2)) || ((x2 == 1) && (!m))) == false)) (.bool ((x2 == 2))) undef), VP.eq (cond ((((((x0 != a1) || (x1 != a2)) || ((x2 == 1) && (!m))) == false) && ((x2 == 2) == true))) (.pointer (some ⟨gX, 3, none⟩)) undef), VP.eq (cond ((((((x0 != a1) || (x1 != a2)) || ((x2 == 1) && (!m))) == false) && ((x2 == 2) == true))) (.bool (m)) undef), VP.eq (cond (((((x0 != a1) || (x1 != a2)) || ((x2 == 1) && (!m))) == false)) (.bool (((x2 == 2) && m))) undef), VP.eq (.bool (((((x0 != a1) || (x1 != a2)) || ((x2 == 1) && (!m))) || ((x2 == 2) && m))))] rfl rfl (by kernel_rfl) rfl ⟨?_, ?_, ?_, ?_, ?_, ?_, ?_, ?_, ?_, ?_, ?_, ?_, ?_, ?_, ?_, ?_, ?_, ?_, ?_, ?_, ?_, ?_, ?_, ?_, ?_, ?_, ?_, ?_, ?_, trivial⟩ ?_
 ·exact fun _ W _ hW _ hb hd _ hK _ => gd_step (C := true) wn_ (fun _ => x_fa95 rfl (oD (by kernel_rfl)) (hb 12)) (hK _ W rfl (Below.refl _ _))
 ·exact fun _ W _ hW _ hb hd _ hK _ => gd_step (C := true) wn_ (fun _ => x_ld3 rfl (hd 0 36) ((blk_cell (dI W hW) 0).trans rfl)) (hK _ W rfl (Below.refl _ _))
 ·exact fun _ W _ hW _ hb hd _ hK _ => gd_step (C := true) wn_ (fun _ => x_move rfl (hb 1)) (hK _ W rfl (Below.refl _ _))
 ·exact fun _ W _ hW _ hb hd _ hK _ => gd_step (C := true) wn_ (fun _ => x_neq rfl (hd 1 37) (hd 2 38)) (hK _ W rfl (Below.refl _ _))
 ·exact fun _ W _ hW _ hb hd _ hK _ => gd_step (C := true) wn_ (fun _ => x_move rfl (hd 3 39)) (hK _ W rfl (Below.refl _ _))
 ·exact fun _ W _ hW _ hb hd _ hK _ => gd_step (wg0 (hd 4 40)) (fun hC => x_fa95 rfl (oD (by kernel_rfl)) (hb 12)) (hK _ W rfl (Below.refl _ _))
 ·exact fun _ W _ hW _ hb hd _ hK _ => gd_step (wg0 (hd 4 40)) (fun hC => x_ld3 rfl (cnd (hd 5 41) hC) ((blk_cell (dI W hW) 1).trans rfl)) (hK _ W rfl (Below.refl _ _))
 ·exact fun _ W _ hW _ hb hd _ hK _ => gd_step (wg0 (hd 4 40)) (fun hC => x_move rfl (hb 2)) (hK _ W rfl (Below.refl _ _))
 ·exact fun _ W _ hW _ hb hd _ hK _ => gd_step (wg0 (hd 4 40)) (fun hC => x_neq rfl (cnd (hd 6 42) hC) (cnd (hd 7 43) hC)) (hK _ W rfl (Below.refl _ _))
 ·exact fun _ W _ hW _ hb hd _ hK _ => gd_step (C := true) wn_ (fun _ => x_or rfl (hd 4 40) (hd 8 44)) (hK _ W rfl (Below.refl _ _))
 ·exact fun _ W _ hW _ hb hd _ hK _ => gd_step (C := true) wn_ (fun _ => x_move rfl (hd 9 45)) (hK _ W rfl (Below.refl _ _))
 ·exact fun _ W _ hW _ hb hd _ hK _ => gd_step (wg0 (hd 10 46)) (fun hC => x_fa95 rfl (oD (by kernel_rfl)) (hb 12)) (hK _ W rfl (Below.refl _ _))
 ·exact fun _ W _ hW _ hb hd _ hK _ => gd_step (wg0 (hd 10 46)) (fun hC => x_ld3 rfl (cnd (hd 11 47) hC) ((blk_cell (dI W hW) 2).trans rfl)) (hK _ W rfl (Below.refl _ _))
 ·exact fun _ W _ hW _ hb hd _ hK _ => gd_step (wg0 (hd 10 46)) (fun hC => x_eql rfl (cnd (hd 12 48) hC) rfl) (hK _ W rfl (Below.refl _ _))
 ·exact fun _ W _ hW _ hb hd _ hK _ => gd_step (wg0 (hd 10 46)) (fun hC => x_move rfl (cnd (hd 13 49) hC)) (hK _ W rfl (Below.refl _ _))
 ·exact fun _ W _ hW _ hb hd _ hK _ => gd_step (wg (hd 14 50)) (fun hC => x_fa80 rfl (oD (by kernel_rfl)) (hb 10)) (hK _ W rfl (Below.refl _ _))
 ·exact fun _ W _ hW _ hb hd _ hK _ => gd_step (wg (hd 14 50)) (fun hC => x_ld4 rfl (cnd (hd 15 51) hC) ((blk_cell (dX W hW) 3).trans rfl)) (hK _ W rfl (Below.refl _ _))
 ·exact fun _ W _ hW _ hb hd _ hK _ => gd_step (wg (hd 14 50)) (fun hC => x_not rfl (cnd (hd 16 52) hC)) (hK _ W rfl (Below.refl _ _))
 ·exact fun _ W _ hW _ hb hd _ hK _ => gd_step (wg0 (hd 10 46)) (fun hC => x_and rfl (cnd (hd 14 50) hC) (cnd_and (hd 17 53) hC)) (hK _ W rfl (Below.refl _ _))
 ·exact fun _ W _ hW _ hb hd _ hK _ => gd_step (C := true) wn_ (fun _ => x_or rfl (hd 10 46) (hd 18 54)) (hK _ W rfl (Below.refl _ _))
 ·exact fun _ W _ hW _ hb hd _ hK _ => gd_step (C := true) wn_ (fun _ => x_move rfl (hd 19 55)) (hK _ W rfl (Below.refl _ _))
 ·exact fun _ W _ hW _ hb hd _ hK _ => gd_step (wg0 (hd 20 56)) (fun hC => x_fa95 rfl (oD (by kernel_rfl)) (hb 12)) (hK _ W rfl (Below.refl _ _))
 ·exact fun _ W _ hW _ hb hd _ hK _ => gd_step (wg0 (hd 20 56)) (fun hC => x_ld3 rfl (cnd (hd 21 57) hC) ((blk_cell (dI W hW) 2).trans rfl)) (hK _ W rfl (Below.refl _ _))
 ·exact fun _ W _ hW _ hb hd _ hK _ => gd_step (wg0 (hd 20 56)) (fun hC => x_eql rfl (cnd (hd 22 58) hC) rfl) (hK _ W rfl (Below.refl _ _))
 ·exact fun _ W _ hW _ hb hd _ hK _ => gd_step (wg0 (hd 20 56)) (fun hC => x_move rfl (cnd (hd 23 59) hC)) (hK _ W rfl (Below.refl _ _))
 ·exact fun _ W _ hW _ hb hd _ hK _ => gd_step (wg (hd 24 60)) (fun hC => x_fa80 rfl (oD (by kernel_rfl)) (hb 10)) (hK _ W rfl (Below.refl _ _))
 ·exact fun _ W _ hW _ hb hd _ hK _ => gd_step (wg (hd 24 60)) (fun hC => x_ld4 rfl (cnd (hd 25 61) hC) ((blk_cell (dX W hW) 3).trans rfl)) (hK _ W rfl (Below.refl _ _))
 ·exact fun _ W _ hW _ hb hd _ hK _ => gd_step (wg0 (hd 20 56)) (fun hC => x_and rfl (cnd (hd 24 60) hC) (cnd_and (hd 26 62) hC)) (hK _ W rfl (Below.refl _ _))
 ·exact fun _ W _ hW _ hb hd _ hK _ => gd_step (C := true) wn_ (fun _ => x_or rfl (hd 20 56) (hd 27 63)) (hK _ W rfl (Below.refl _ _))
 intro vals F W B hF hW hBB hV
 have hf : vals 64 = .bool (((((x0 != a1) || (x1 != a2)) || ((x2 == 1) && (!m))) || ((x2 == 2) && m))) := hV 28 64 (oD (by kernel_rfl)) rfl
 replace HB := aM (HW W hW)
 replace BN := aM (dN W hW)
 replace BO := aM (dO W hW)
 replace BX := aM (dX W hW)
 replace BI := aM (dI W hW)
 clear hW HW dN dO dX dI
 rw [hF]
 clear hF hV hBB
 simp only [cond_true, List.take, fillA, Act.put, List.setIfInBounds_toArray, List.set_cons_zero, List.set_cons_succ, hf]
 clear hf
 cases hSK : ((((x0 != a1) || (x1 != a2)) || ((x2 == 1) && (!m))) || ((x2 == 2) && m)) with
 | true =>
  rw [if_pos hSK] at hN
  have HI := aM hN
  clear hN
  obtain ⟨cN0, cN1, cN2, cN3, cN4, cN5⟩ := box6 BN.out
  obtain ⟨cO0, cO1, cO2, cO3⟩ := box4 BO.out
  obtain ⟨cX0, cX1, cX2, cX3⟩ := box4 BX.out
  obtain ⟨cI0, cI1, cI2, cI3, cI4⟩ := box5 BI.out
  go_wp2
  go_roundg (l0_4.length - (kk + 1))
  case measure => omega
  case rel => exact ⟨kk + 1, p, m, by omega, by omega, by go_num, HB, BN, BO, BX, HI⟩
 | false =>
  rw [if_neg (by rw [hSK]; exact Bool.false_ne_true)] at hN
  cases h1 : (x3 == 1) with
  | true =>
   rw [h1, if_pos rfl] at hN
   subst hN
   have hq := HR.out
   simp only [resI, Prod.mk.injEq] at hq
   obtain ⟨rfl, rfl, rfl, rfl, rfl⟩ := hq
   obtain ⟨cN0, cN1, cN2, cN3, cN4, cN5⟩ := box6 BN.out
   obtain ⟨cO0, cO1, cO2, cO3⟩ := box4 BO.out
   obtain ⟨cX0, cX1, cX2, cX3⟩ := box4 BX.out
   obtain ⟨cI0, cI1, cI2, cI3, cI4⟩ := box5 BI.out
   go_wp2_with (((with_reducible refine gate_store (t := 80) (p := 8) rfl ?_); have z0 := blk_frozen BO.out 0; have z1 := blk_frozen BO.out 1; have z2 := blk_frozen BO.out 2; have z3 := blk_frozen BO.out 3; refine store_event (t := 80) (p := 8) (v := .tmp 69) (w1 := ((((W.setCell ⟨gO, 0, none⟩ (.int .i64 0)).setCell ⟨gO, 1, none⟩ (.int .i64 0)).setCell ⟨gO, 2, none⟩ (.int .i64 0)).setCell ⟨gO, 3, none⟩ (.bool false))) ?hg ?ho ?hn ?hr ?_; (case ho => rfl); (case hg => rfl); (case hn => rfl); (case hr => (go_simp; done)); clear z0 z1 z2 z3; clear cN0 cN1 cN2 cN3 cN4 cN5 cO0 cO1 cO2 cO3 cX0 cX1 cX2 cX3 cI0 cI1 cI2 cI3 cI4; intro wz hw_; obtain ⟨hbk, hkb, hkw⟩ := boxv4 (v0 := .int .i64 0) (v1 := .int .i64 0) (v2 := .int .i64 0) (v3 := .bool false) BO.out; rw [← hw_] at hbk hkb hkw; clear hw_; replace HB := aM (hkw _ HB.out GEO.out); replace BN := aM (blk_kept BN.out hkb (fun h_ => NENO.out h_)); replace BO := aM (hbk); replace BX := aM (blk_kept BX.out hkb (fun h_ => NEOX.out h_.symm)); replace BI := aM (blk_kept BI.out hkb (fun h_ => NEOI.out h_.symm)); clear hbk hkb hkw; obtain ⟨cN0, cN1, cN2, cN3, cN4, cN5⟩ := box6 BN.out; obtain ⟨cO0, cO1, cO2, cO3⟩ := box4 BO.out; obtain ⟨cX0, cX1, cX2, cX3⟩ := box4 BX.out; obtain ⟨cI0, cI1, cI2, cI3, cI4⟩ := box5 BI.out))
   refine bodyPost_ret (results_ct rfl _ _ gO 80 #[.int .i64 0, .int .i64 0, .int .i64 0, .bool false] (0, 0) _ rfl BO.out Try.underlying80 rfl (by kernel_rfl)) rfl ?_
   exact ⟨rfl, HB.out⟩
  | false =>
   rw [h1, if_neg Bool.false_ne_true] at hN
   cases h2 : (x3 == 2) with
   | true =>
    rw [h2, if_pos rfl] at hN
    have HI := aM hN
    clear hN
    obtain ⟨cN0, cN1, cN2, cN3, cN4, cN5⟩ := box6 BN.out
    obtain ⟨cO0, cO1, cO2, cO3⟩ := box4 BO.out
    obtain ⟨cX0, cX1, cX2, cX3⟩ := box4 BX.out
    obtain ⟨cI0, cI1, cI2, cI3, cI4⟩ := box5 BI.out
    go_wp2_with (((with_reducible refine gate_store (t := 3) (p := 74) rfl ?_); have z0 := blk_frozen BX.out 1; refine store_event (t := 3) (p := 74) (v := .tmp 73) (w1 := W.setCell ⟨gX, 1, none⟩ (.int .i64 x4)) ?hg ?ho ?hn ?hr ?_; (case ho => rfl); (case hg => rfl); (case hn => rfl); (case hr => (go_simp; done)); clear z0; clear cN0 cN1 cN2 cN3 cN4 cN5 cO0 cO1 cO2 cO3 cX0 cX1 cX2 cX3 cI0 cI1 cI2 cI3 cI4; intro wz hw_; obtain ⟨hbk, hkb, hkw⟩ := boxf (i := 1) (v := .int .i64 x4) (cs' := #[.int .i64 a2, .int .i64 x4, .int .i64 (wrap64 (a3_2 + cost)), .bool m]) BX.out rfl; rw [← hw_] at hbk hkb hkw; clear hw_; replace HB := aM (hkw _ HB.out GEX.out); replace BN := aM (blk_kept BN.out hkb (fun h_ => NENX.out h_)); replace BO := aM (blk_kept BO.out hkb (fun h_ => NEOX.out h_)); replace BX := aM (hbk); replace BI := aM (blk_kept BI.out hkb (fun h_ => NEXI.out h_.symm)); clear hbk hkb hkw; obtain ⟨cN0, cN1, cN2, cN3, cN4, cN5⟩ := box6 BN.out; obtain ⟨cO0, cO1, cO2, cO3⟩ := box4 BO.out; obtain ⟨cX0, cX1, cX2, cX3⟩ := box4 BX.out; obtain ⟨cI0, cI1, cI2, cI3, cI4⟩ := box5 BI.out))
    go_roundg (l0_4.length - (kk + 1))
    case measure => omega
    case rel => exact ⟨kk + 1, x4, m, by omega, by omega, by go_num, HB, BN, BO, BX, HI⟩
   | false =>
    rw [h2, if_neg Bool.false_ne_true] at hN
    cases h3 : (x3 == 3) with
    | true =>
     rw [h3, if_pos rfl] at hN
     have HI := aM hN
     clear hN
     obtain ⟨cN0, cN1, cN2, cN3, cN4, cN5⟩ := box6 BN.out
     obtain ⟨cO0, cO1, cO2, cO3⟩ := box4 BO.out
     obtain ⟨cX0, cX1, cX2, cX3⟩ := box4 BX.out
     obtain ⟨cI0, cI1, cI2, cI3, cI4⟩ := box5 BI.out
     go_wp2_with (((with_reducible refine gate_store (t := 4) (p := 77) rfl ?_); have z0 := blk_frozen BX.out 3; refine store_event (t := 4) (p := 77) (v := .const (.bool true)) (w1 := W.setCell ⟨gX, 3, none⟩ (.bool true)) ?hg ?ho ?hn ?hr ?_; (case ho => rfl); (case hg => rfl); (case hn => rfl); (case hr => (go_simp; done)); clear z0; clear cN0 cN1 cN2 cN3 cN4 cN5 cO0 cO1 cO2 cO3 cX0 cX1 cX2 cX3 cI0 cI1 cI2 cI3 cI4; intro wz hw_; obtain ⟨hbk, hkb, hkw⟩ := boxf (i := 3) (v := .bool true) (cs' := #[.int .i64 a2, .int .i64 p, .int .i64 (wrap64 (a3_2 + cost)), .bool true]) BX.out rfl; rw [← hw_] at hbk hkb hkw; clear hw_; replace HB := aM (hkw _ HB.out GEX.out); replace BN := aM (blk_kept BN.out hkb (fun h_ => NENX.out h_)); replace BO := aM (blk_kept BO.out hkb (fun h_ => NEOX.out h_)); replace BX := aM (hbk); replace BI := aM (blk_kept BI.out hkb (fun h_ => NEXI.out h_.symm)); clear hbk hkb hkw; obtain ⟨cN0, cN1, cN2, cN3, cN4, cN5⟩ := box6 BN.out; obtain ⟨cO0, cO1, cO2, cO3⟩ := box4 BO.out; obtain ⟨cX0, cX1, cX2, cX3⟩ := box4 BX.out; obtain ⟨cI0, cI1, cI2, cI3, cI4⟩ := box5 BI.out))
     go_roundg (l0_4.length - (kk + 1))
     case measure => omega
     case rel => exact ⟨kk + 1, p, true, by omega, by omega, by go_num, HB, BN, BO, BX, HI⟩
    | false =>
     rw [h3, if_neg Bool.false_ne_true] at hN
     cases h4 : (x3 == 4) with
     | true =>
      rw [h4, if_pos rfl] at hN
      have HI := aM hN
      clear hN
      obtain ⟨cN0, cN1, cN2, cN3, cN4, cN5⟩ := box6 BN.out
      obtain ⟨cO0, cO1, cO2, cO3⟩ := box4 BO.out
      obtain ⟨cX0, cX1, cX2, cX3⟩ := box4 BX.out
      obtain ⟨cI0, cI1, cI2, cI3, cI4⟩ := box5 BI.out
      go_wp2_with (((with_reducible refine gate_store (t := 4) (p := 80) rfl ?_); have z0 := blk_frozen BX.out 3; refine store_event (t := 4) (p := 80) (v := .const (.bool false)) (w1 := W.setCell ⟨gX, 3, none⟩ (.bool false)) ?hg ?ho ?hn ?hr ?_; (case ho => rfl); (case hg => rfl); (case hn => rfl); (case hr => (go_simp; done)); clear z0; clear cN0 cN1 cN2 cN3 cN4 cN5 cO0 cO1 cO2 cO3 cX0 cX1 cX2 cX3 cI0 cI1 cI2 cI3 cI4; intro wz hw_; obtain ⟨hbk, hkb, hkw⟩ := boxf (i := 3) (v := .bool false) (cs' := #[.int .i64 a2, .int .i64 p, .int .i64 (wrap64 (a3_2 + cost)), .bool false]) BX.out rfl; rw [← hw_] at hbk hkb hkw; clear hw_; replace HB := aM (hkw _ HB.out GEX.out); replace BN := aM (blk_kept BN.out hkb (fun h_ => NENX.out h_)); replace BO := aM (blk_kept BO.out hkb (fun h_ => NEOX.out h_)); replace BX := aM (hbk); replace BI := aM (blk_kept BI.out hkb (fun h_ => NEXI.out h_.symm)); clear hbk hkb hkw; obtain ⟨cN0, cN1, cN2, cN3, cN4, cN5⟩ := box6 BN.out; obtain ⟨cO0, cO1, cO2, cO3⟩ := box4 BO.out; obtain ⟨cX0, cX1, cX2, cX3⟩ := box4 BX.out; obtain ⟨cI0, cI1, cI2, cI3, cI4⟩ := box5 BI.out))
      go_roundg (l0_4.length - (kk + 1))
      case measure => omega
      case rel => exact ⟨kk + 1, p, false, by omega, by omega, by go_num, HB, BN, BO, BX, HI⟩
     | false =>
      rw [h4, if_neg Bool.false_ne_true] at hN
      have HI := aM hN
      clear hN
      obtain ⟨cN0, cN1, cN2, cN3, cN4, cN5⟩ := box6 BN.out
      obtain ⟨cO0, cO1, cO2, cO3⟩ := box4 BO.out
      obtain ⟨cX0, cX1, cX2, cX3⟩ := box4 BX.out
      obtain ⟨cI0, cI1, cI2, cI3, cI4⟩ := box5 BI.out
      go_wp2
      go_roundg (l0_4.length - (kk + 1))
      case measure => omega
      case rel => exact ⟨kk + 1, p, m, by omega, by omega, by go_num, HB, BN, BO, BX, HI⟩
end Go.Proofs.Ytgibacfgjmdjdaa.PFnExactIsStable
end
section
namespace Go.Proofs.Ytgibacfgjmdjdaa.PFnExactIsStable
open Go.RowKit Go.Proofs.YtgibacfgjmdjdaaW.PrintWords Go.Proofs.YtgibacfgjmdjdaaW.PrintLast Go.Proofs.YtgibacfgjmdjdaaW.PrintMore
attribute [local go_sem] max2_int min2_int max_two min_two max_three min_three max_four min_four   -- for this text's walks alone
set_option linter.unusedVariables false
set_option linter.unusedSimpArgs false
def impl_candidates.T12 : Bool × List (List Nat × List Nat) := (true, [([], []), ([], []), ([], []), ([], []), ([], []), ([3, 4], [3, 4]), ([5], [5]), ([0, 1, 2, 6], [0, 1, 2, 6]), ([7], [7]), ([8], [8]), ([8], [8]), ([], []), ([11, 9, 7, 0, 1, 2, 3, 4, 5, 6, 7, 8, 9, 11], [9, 11]), ([10, 12, 0, 1, 2, 3, 4, 5, 6, 7, 8, 9, 10, 11, 12], [10])])
def impl_candidates.B12 : List Nat := [0, 0, 0, 0, 0, 24, 56, 127, 255, 511, 511, 0, 3071, 8191]
end Go.Proofs.Ytgibacfgjmdjdaa.PFnExactIsStable
end
section
namespace Go.Proofs.Ytgibacfgjmdjdaa.PFnExactIsStable
open Go.RowKit Go.Proofs.YtgibacfgjmdjdaaW.PrintWords Go.Proofs.YtgibacfgjmdjdaaW.PrintLast Go.Proofs.YtgibacfgjmdjdaaW.PrintMore
attribute [local go_sem] max2_int min2_int max_two min_two max_three min_three max_four min_four   -- for this text's walks alone
set_option linter.unusedVariables false
set_option maxHeartbeats 8000000
set_option maxRecDepth 100000
set_option linter.unusedSimpArgs false
end Go.Proofs.Ytgibacfgjmdjdaa.PFnExactIsStable
end
section
namespace Go.Proofs.Ytgibacfgjmdjdaa.PFnExactIsStable
open Go.RowKit Go.Proofs.YtgibacfgjmdjdaaW.PrintWords Go.Proofs.YtgibacfgjmdjdaaW.PrintLast Go.Proofs.YtgibacfgjmdjdaaW.PrintMore
attribute [local go_sem] max2_int min2_int max_two min_two max_three min_three max_four min_four   -- for this text's walks alone
set_option linter.unusedVariables false
set_option maxHeartbeats 8000000
set_option maxRecDepth 100000
set_option linter.unusedSimpArgs false
section
variable {P : World → Prop} {V V2 : World} {ok S : Nat → Prop}
theorem foot_below (h : Foot P V ok) (hb : Below V.heap.size V V2) : Foot P V2 ok := h.step (fun k _ hlt => hb.block k hlt)
theorem foot_kept (h : Foot P V ok) (hk : Kept V V2 S) (hne : ∀ k, ok k → ¬ S k) : Foot P V2 ok := h.step (fun k hk' hlt => hk.2 k hlt (hne k hk'))
theorem foot_R {α : Type} {d : Kd α} {e base : Nat} {v : Value} {xs : List α} (h : d.R e V base ok v xs) : Foot (fun V => d.R e V base ok v xs) V ok := fun W' hW => Kd.R_step h hW
theorem foot_blk {g : Nat} {o : Obj} (h : V.heap[g]? = some o) (hok : ok g) : Foot (fun V => V.heap[g]? = some o) V ok := fun W' hW => (hW g hok (blk_lt h)).trans h
theorem foot_and {Q : World → Prop} (h : Foot P V ok) (k : Foot Q V ok) : Foot (fun V => P V ∧ Q V) V ok := fun W' hW => ⟨h W' hW, k W' hW⟩
theorem drawn_below (h : Drawn0 V V2) : Below V.heap.size V V2 := by
 obtain ⟨n, rfl⟩ := h.out
 exact pw_below_drewN (Below.refl _ _) n
theorem foot_C {α : Type} {d : Kd α} {A : Option Addr} {n : Nat} {xs : List α} (hd : Kd.Heap d) (h : d.C V A n xs) : Foot (fun V => d.C V A n xs) V (fun k => k < V.heap.size) := Kd.C_F hd h
end
theorem heap107 : Kd.Heap k107 := Kd.heap_iso _ (Kd.heap_pair (Kd.heap_int .i64) (Kd.heap_pair (Kd.heap_int .i64) (Kd.heap_int .i64)))
theorem heap109 : Kd.Heap k109 := Kd.heap_iso _ (Kd.heap_pair (Kd.heap_int .i64) (Kd.heap_pair (Kd.heap_int .i64) (Kd.heap_pair (Kd.heap_int .i64) (Kd.heap_pair (Kd.heap_int .i64) (Kd.heap_int .i64)))))
theorem heap111 : Kd.Heap k111 := Kd.heap_iso _ (Kd.heap_pair (Kd.heap_int .i64) (Kd.heap_pair (Kd.heap_int .i64) (Kd.heap_pair (Kd.heap_int .i64) (Kd.heap_int .i64))))
def NP (lo : Nat) (ok : Nat → Prop) (A0 : Option Addr) (c0 : Nat) (A1 : Option Addr) (c1 : Nat) (A2 : Option Addr) (c2 : Nat) (A3 : Option Addr) (c3 : Nat) (A4 : Option Addr) (c4 : Nat) (A5 : Option Addr) (c5 : Nat) (q0 : List ByteArray) (q1 : List S92) (q2 : List Int) (q3 : List Int) (q4 : List S95) (q5 : List S97) (V : World) : Prop := Kd.R Kd.string 9 V lo ok (.slice A0 q0.length c0) q0 ∧ Kd.R k92 92 V lo ok (.slice A1 q1.length c1) q1 ∧ Kd.R (Kd.int .i64) 3 V lo ok (.slice A2 q2.length c2) q2 ∧ Kd.R (Kd.int .i64) 3 V lo ok (.slice A3 q3.length c3) q3 ∧ Kd.R k95 95 V lo ok (.slice A4 q4.length c4) q4 ∧ Kd.R k97 97 V lo ok (.slice A5 q5.length c5) q5
def NO (A0 : Option Addr) (c0 : Nat) (A1 : Option Addr) (c1 : Nat) (A2 : Option Addr) (c2 : Nat) (A3 : Option Addr) (c3 : Nat) (A4 : Option Addr) (c4 : Nat) (A5 : Option Addr) (c5 : Nat) (q0 : List ByteArray) (q1 : List S92) (q2 : List Int) (q3 : List Int) (q4 : List S95) (q5 : List S97) : Nat → Prop := fun k => some k = (.slice A0 q0.length c0 : Value).ownBlock ∨ some k = (.slice A1 q1.length c1 : Value).ownBlock ∨ some k = (.slice A2 q2.length c2 : Value).ownBlock ∨ some k = (.slice A3 q3.length c3 : Value).ownBlock ∨ some k = (.slice A4 q4.length c4 : Value).ownBlock ∨ some k = (.slice A5 q5.length c5 : Value).ownBlock
section
variable {V W : World} {lo : Nat} {ok ok' : Nat → Prop} {A0 : Option Addr} {c0 : Nat} {A1 : Option Addr} {c1 : Nat} {A2 : Option Addr} {c2 : Nat} {A3 : Option Addr} {c3 : Nat} {A4 : Option Addr} {c4 : Nat} {A5 : Option Addr} {c5 : Nat} {q0 : List ByteArray} {q1 : List S92} {q2 : List Int} {q3 : List Int} {q4 : List S95} {q5 : List S97} {kf : Nat}
theorem NP.foot (h : NP lo ok A0 c0 A1 c1 A2 c2 A3 c3 A4 c4 A5 c5 q0 q1 q2 q3 q4 q5 V) : Foot (NP lo ok A0 c0 A1 c1 A2 c2 A3 c3 A4 c4 A5 c5 q0 q1 q2 q3 q4 q5) V ok := fun W' hW => ⟨Kd.R_step h.1 hW, Kd.R_step h.2.1 hW, Kd.R_step h.2.2.1 hW, Kd.R_step h.2.2.2.1 hW, Kd.R_step h.2.2.2.2.1 hW, Kd.R_step h.2.2.2.2.2 hW⟩
theorem NP.own (h : NP lo ok A0 c0 A1 c1 A2 c2 A3 c3 A4 c4 A5 c5 q0 q1 q2 q3 q4 q5 V) : ∀ k, NO A0 c0 A1 c1 A2 c2 A3 c3 A4 c4 A5 c5 q0 q1 q2 q3 q4 q5 k → ok k := fun k hk => by
 unfold NO at hk
 rcases hk with hk | hk | hk | hk | hk | hk
 ·exact h.1.1 k hk.symm
 ·exact h.2.1.1 k hk.symm
 ·exact h.2.2.1.1 k hk.symm
 ·exact h.2.2.2.1.1 k hk.symm
 ·exact h.2.2.2.2.1.1 k hk.symm
 ·exact h.2.2.2.2.2.1 k hk.symm
set_option maxHeartbeats 1000000 in
theorem toNet_any {w : World} (b0 : Nat) (hb0 : b0 ≤ w.heap.size) (a0 : Option Addr) (d0 : Nat) (l0 : List ByteArray) (a1 : Option Addr) (d1 : Nat) (l1 : List S107) (a2 : Option Addr) (d2 : Nat) (l2 : List Int) (a3 : Option Addr) (d3 : Nat) (l3 : List Int) (a4 : Option Addr) (d4 : Nat) (l4 : List S109) (a5 : Option Addr) (d5 : Nat) (l5 : List S111) (q0 : List ByteArray) (q1 : List S92) (q2 : List Int) (q3 : List Int) (q4 : List S95) (q5 : List S97) (hr0 : Kd.C Kd.string w a0 l0.length l0) (hc0 : l0.length ≤ d0) (hr1 : Kd.C k107 w a1 l1.length l1) (hc1 : l1.length ≤ d1) (hr2 : Kd.C (Kd.int .i64) w a2 l2.length l2) (hc2 : l2.length ≤ d2) (hr3 : Kd.C (Kd.int .i64) w a3 l3.length l3) (hc3 : l3.length ≤ d3) (hr4 : Kd.C k109 w a4 l4.length l4) (hc4 : l4.length ≤ d4) (hr5 : Kd.C k111 w a5 l5.length l5) (hc5 : l5.length ≤ d5) (h : laws_toNet.f kf l0 l1 l2 l3 l4 l5 = some (q0, q1, q2, q3, q4, q5)) :
  Calls Try.prog 10 #[.agg #[.slice a0 l0.length d0, .slice a1 l1.length d1, .slice a2 l2.length d2, .slice a3 l3.length d3, .slice a4 l4.length d4, .slice a5 l5.length d5]] w fun e w' => ∃ (A0 : Option Addr) (c0 : Nat) (A1 : Option Addr) (c1 : Nat) (A2 : Option Addr) (c2 : Nat) (A3 : Option Addr) (c3 : Nat) (A4 : Option Addr) (c4 : Nat) (A5 : Option Addr) (c5 : Nat), e = .returned (.agg #[.slice A0 q0.length c0, .slice A1 q1.length c1, .slice A2 q2.length c2, .slice A3 q3.length c3, .slice A4 q4.length c4, .slice A5 q5.length c5]) ∧ NP b0 (fun k => w.heap.size ≤ k ∧ k < w'.heap.size) A0 c0 A1 c1 A2 c2 A3 c3 A4 c4 A5 c5 q0 q1 q2 q3 q4 q5 w' ∧ (∀ k, some k = (.slice A2 q2.length c2 : Value).ownBlock → ¬ some k = (.slice A3 q3.length c3 : Value).ownBlock) ∧ Below w.heap.size w w' := by
 refine (laws_toNet.calls kf a0 d0 l0 a1 d1 l1 a2 d2 l2 a3 d3 l3 a4 d4 l4 a5 d5 l5 q0 q1 q2 q3 q4 q5 w hr0 hc0 hr1 hc1 hr2 hc2 hr3 hc3 hr4 hc4 hr5 hc5 h).mono ?_
 rintro e w' ⟨v0, v1, v2, v3, v4, v5, rfl, h0, h1, h2, h3, h4, h5, hb⟩
 obtain ⟨A0, c0, e0⟩ := Kd.R_slice h0
 subst e0
 obtain ⟨A1, c1, e1⟩ := Kd.R_slice h1
 subst e1
 obtain ⟨A2, c2, e2⟩ := Kd.R_slice h2
 subst e2
 obtain ⟨A3, c3, e3⟩ := Kd.R_slice h3
 subst e3
 obtain ⟨A4, c4, e4⟩ := Kd.R_slice h4
 subst e4
 obtain ⟨A5, c5, e5⟩ := Kd.R_slice h5
 subst e5
 refine ⟨A0, c0, A1, c1, A2, c2, A3, c3, A4, c4, A5, c5, rfl, ⟨Kd.R_mono (Kd.R_lower (Kd.R_bound h0) hb0) (fun k hk => ⟨hk.2.1, hk.2.2.1⟩), Kd.R_mono (Kd.R_lower (Kd.R_bound h1) hb0) (fun k hk => ⟨hk.2.1, hk.2.2.1⟩), Kd.R_mono (Kd.R_lower (Kd.R_bound h2) hb0) (fun k hk => ⟨hk.2.1, hk.2.2.1⟩), Kd.R_mono (Kd.R_lower (Kd.R_bound h3) hb0) (fun k hk => ⟨hk.2.1, hk.2.2.1⟩), Kd.R_mono (Kd.R_lower (Kd.R_bound h4) hb0) (fun k hk => ⟨hk.2.1, hk.2.2.1⟩), Kd.R_mono (Kd.R_lower (Kd.R_bound h5) hb0) (fun k hk => ⟨hk.2.1, hk.2.2.1⟩)⟩, (fun k e => h2.1 k e.symm), hb⟩
theorem eqNet_any {lo2 : Nat} {ok2 : Nat → Prop} {B0 : Option Addr} {e0 : Nat} {B1 : Option Addr} {e1 : Nat} {B2 : Option Addr} {e2 : Nat} {B3 : Option Addr} {e3 : Nat} {B4 : Option Addr} {e4 : Nat} {B5 : Option Addr} {e5 : Nat} {p0 : List ByteArray} {p1 : List S92} {p2 : List Int} {p3 : List Int} {p4 : List S95} {p5 : List S97} {r : Bool} (h1 : NP lo ok A0 c0 A1 c1 A2 c2 A3 c3 A4 c4 A5 c5 q0 q1 q2 q3 q4 q5 V) (h2 : NP lo2 ok2 B0 e0 B1 e1 B2 e2 B3 e3 B4 e4 B5 e5 p0 p1 p2 p3 p4 p5 V) (h : laws_eqNet.f kf q0 q1 q2 q3 q4 q5 p0 p1 p2 p3 p4 p5 = some r) :
  Calls Try.prog 15 #[.agg #[.slice A0 q0.length c0, .slice A1 q1.length c1, .slice A2 q2.length c2, .slice A3 q3.length c3, .slice A4 q4.length c4, .slice A5 q5.length c5], .agg #[.slice B0 p0.length e0, .slice B1 p1.length e1, .slice B2 p2.length e2, .slice B3 p3.length e3, .slice B4 p4.length e4, .slice B5 p5.length e5]] V fun e w' => e = .returned (.bool r) ∧ Below V.heap.size V w' :=
 laws_eqNet.calls kf A0 c0 q0 A1 c1 q1 A2 c2 q2 A3 c3 q3 A4 c4 q4 A5 c5 q5 B0 e0 p0 B1 e1 p1 B2 e2 p2 B3 e3 p3 B4 e4 p4 B5 e5 p5 r V (Kd.R_reads' h1.1).2.2 (Kd.R_reads' h1.1).2.1 (Kd.R_reads' h1.2.1).2.2 (Kd.R_reads' h1.2.1).2.1 (Kd.R_reads' h1.2.2.1).2.2 (Kd.R_reads' h1.2.2.1).2.1 (Kd.R_reads' h1.2.2.2.1).2.2 (Kd.R_reads' h1.2.2.2.1).2.1 (Kd.R_reads' h1.2.2.2.2.1).2.2 (Kd.R_reads' h1.2.2.2.2.1).2.1 (Kd.R_reads' h1.2.2.2.2.2).2.2 (Kd.R_reads' h1.2.2.2.2.2).2.1 (Kd.R_reads' h2.1).2.2 (Kd.R_reads' h2.1).2.1 (Kd.R_reads' h2.2.1).2.2 (Kd.R_reads' h2.2.1).2.1 (Kd.R_reads' h2.2.2.1).2.2 (Kd.R_reads' h2.2.2.1).2.1 (Kd.R_reads' h2.2.2.2.1).2.2 (Kd.R_reads' h2.2.2.2.1).2.1 (Kd.R_reads' h2.2.2.2.2.1).2.2 (Kd.R_reads' h2.2.2.2.2.1).2.1 (Kd.R_reads' h2.2.2.2.2.2).2.2 (Kd.R_reads' h2.2.2.2.2.2).2.1 h
end
end Go.Proofs.Ytgibacfgjmdjdaa.PFnExactIsStable
end
section
namespace Go.Proofs.Ytgibacfgjmdjdaa.PFnExactIsStable
open Go.RowKit Go.Proofs.YtgibacfgjmdjdaaW.PrintWords Go.Proofs.YtgibacfgjmdjdaaW.PrintLast Go.Proofs.YtgibacfgjmdjdaaW.PrintMore
attribute [local go_sem] max2_int min2_int max_two min_two max_three min_three max_four min_four   -- for this text's walks alone
set_option linter.unusedVariables false
set_option maxHeartbeats 8000000
set_option maxRecDepth 100000
set_option linter.unusedSimpArgs false
def laws_markIntS.l0 : Nat → List Int → Int → Int → Option (Int × List Int)
 | 0, _, _, _ => none
 | k + 1, x0, x1, x5 => if x5 < (x0.length : Int) then (if 0 ≤ x5 then (laws_markIntS.l0 k (x0.set (x5 : Int).toNat x1) (wrap64 (x1 + 1)) (wrap64 (x5 + 1))) else (none)) else (some (x1, x0))
def laws_markIntS.f (k : Nat) (l0 : List Int) (a1 : Int) : Option (Int × List Int) := laws_markIntS.l0 k l0 a1 0
theorem laws_markIntS.calls (k : Nat) (P0_ : Nat → Prop) (u9000_ : Value) (l0 : List Int) (a1 : Int) (r1 : Int) (r2 : List Int) (w0 w : World) (hB : Below w0.heap.size w0 w) (ho0 : Kd.R (Kd.int .i64) 3 w w0.heap.size P0_ u9000_ l0) (h : laws_markIntS.f k l0 a1 = some (r1, r2)) :
  Calls Try.prog 19 #[u9000_, .int .i64 a1] w fun e w' => e = .returned (.int .i64 r1) ∧ Kd.R (Kd.int .i64) 3 w' w0.heap.size (fun k_ => (P0_ k_ ∨ w.heap.size ≤ k_)) u9000_ r2 ∧ Below w0.heap.size w0 w' ∧ Kept w w' (fun k_ => P0_ k_) := by
 have HO0 := aM (show Kd.R (Kd.int .i64) 3 w w0.heap.size (fun k_ => (P0_ k_ ∨ w.heap.size ≤ k_)) u9000_ l0 from Kd.R_mono ho0 (fun k_ hk => (.inl hk)))
 have HK := aM (Kept.refl w (fun k_ => P0_ k_))
 have HW0 := aM hB.size
 have HB := aM hB
 clear hB
 have H : (laws_markIntS.l0 k l0 a1 0) = some (r1, r2) := h
 clear h
 have H' := aM H
 clear H
 go_enter Try.func19, Try.ntmps19
 go_wp2
 go_loopg [1, 5] k (fun kq v1 v5 w' => ∃ (x0_1 : List Int) (x1_1 : Int) (x5_1 : Int), v1 = .int .i64 x1_1 ∧ v5 = .int .i64 x5_1 ∧ Aside0 (laws_markIntS.l0 kq x0_1 x1_1 x5_1 = some (r1, r2)) ∧ Aside0 (kq ≤ k) ∧ Aside0 (Kd.R (Kd.int .i64) 3 w' w0.heap.size (fun k_ => (P0_ k_ ∨ w.heap.size ≤ k_)) u9000_ x0_1) ∧ Aside0 (Kept w w' (fun k_ => P0_ k_)) ∧ Aside0 (Below w0.heap.size w0 w'))
 case atStart => exact ⟨(l0), (a1), (0), (by rfl), (by rfl), H', ⟨Nat.le_refl _⟩, ⟨by exact HO0.out⟩, ⟨by repeat ((with_reducible exact HK.out))⟩, ⟨by repeat ((with_reducible exact HB.out))⟩⟩
 clear H'
 obtain ⟨x0_1, x1_1, x5_1, rfl, rfl, HA, HK1, HO_0, HK, HB⟩ := hrel
 cases gk with
 | zero => exact absurd HA.out (by simp [laws_markIntS.l0])
 | succ k1 =>
  have H := HA.out
  clear HA
  simp only [laws_markIntS.l0] at H
  by_cases c3 : x5_1 < (x0_1.length : Int)
  rotate_left
  ·rw [if_neg c3] at H
   have c3b0 : decide (x5_1 < (x0_1.length : Int)) = false := decide_eq_false c3
   clear c3
   simp only [Option.some.injEq, Prod.mk.injEq] at H
   obtain ⟨rfl, rfl⟩ := H
   obtain ⟨Ao9, co9, eo9⟩ := Kd.R_slice HO_0.out
   subst eo9
   go_wp2
   go_ret
   exact ⟨by rfl, by exact HO_0.out, by repeat ((with_reducible exact HB.out)), by repeat ((with_reducible exact HK.out))⟩
  rw [if_pos c3] at H
  have c3b0 : decide (x5_1 < (x0_1.length : Int)) = true := decide_eq_true c3
  clear c3
  by_cases c4 : 0 ≤ x5_1
  rotate_left
  ·rw [if_neg c4] at H
   exact absurd H (by simp)
  rw [if_pos c4] at H
  have c4b0 : decide (0 ≤ x5_1) = true := decide_eq_true c4
  clear c4
  obtain ⟨y207, hy207⟩ : ∃ y_ : List Int, y_ = (x0_1.set (x5_1 : Int).toNat x1_1) := ⟨_, rfl⟩
  replace H : (laws_markIntS.l0 k1 y207 (wrap64 (x1_1 + 1)) (wrap64 (x5_1 + 1))) = some (r1, r2) := by (rw [hy207]; with_reducible exact H)
  have Ny207 := aM hy207
  clear hy207
  have H' := aM H
  clear H
  obtain ⟨Ao6, co6, eo6⟩ := Kd.R_slice HO_0.out
  subst eo6
  have p5 : 0 ≤ (x5_1 : Int) := oD ‹_›
  have q5 : (x5_1 : Int) < ((x0_1.length : Int) : Int) := oD ‹_›
  obtain ⟨go5, co5, eo5, gb5, gl5, cl5, HG5⟩ := Kd.R_form HO_0.out (by omega)
  (cases eo5)
  have GB5 := aM gb5
  have GG5 := aM HG5
  clear gb5 gl5 HG5
  have HMgo5 := aM (show (P0_ go5 ∨ w.heap.size ≤ go5) from (HO_0.out.1 _ rfl))
  obtain ⟨hx5_0, hf5_0⟩ := Kd.R_celln 0 HO_0.out (x5_1 : Int) p5 q5
  replace p5 := eq_true p5
  replace q5 := eq_true q5
  have HP7 := Kd.R_putg HO_0.out (x5_1 : Int) x1_1
  go_wp2_with (((with_reducible refine gate_store (t := 3) (p := 15) rfl ?_); refine store_event (t := 3) (p := 15) (v := ?vo_w8) (w1 := (wr.setCell ⟨go5, (x5_1 : Int).toNat, none⟩ (.int .i64 x1_1))) ?hg ?ho ?hn ?hr ?_; (case ho => rfl); (case hg => rfl); (case hn => rfl); (case hr => (go_simp; done)); intro w8 hw; have hg : wr.grownBy w8 (some go5) := (by rw [hw]; exact HP7.2); have hp_ : Kd.R (Kd.int .i64) 3 w8 w0.heap.size (fun k_ => (P0_ k_ ∨ w.heap.size ≤ k_)) (.slice (some ⟨go5, 0, none⟩) x0_1.length co6) y207 := (by rw [hw, Ny207.out]; exact HP7.1); clear HP7; replace HB := aM ((by rw [hw]; exact below_set (HB.out) GB5.out : Below w0.heap.size w0 w8)); replace HK := aM (Kept.of_grown (S := (fun k_ => P0_ k_)) hg HK.out (fun k_ e_ => (HO_0.out.1 k_ e_))); replace HO_0 := aM (hp_); clear hg hw hp_))
  go_roundg k1
  case measure => have := HK1.out; omega
  case rel => exact ⟨(y207), (wrap64 (x1_1 + 1)), (wrap64 (x5_1 + 1)), (by rfl), (by rfl), H', ⟨by have := HK1.out; omega⟩, ⟨by exact HO_0.out⟩, ⟨by repeat ((with_reducible exact HK.out))⟩, ⟨by repeat ((with_reducible exact HB.out))⟩⟩
def laws_markText.l0 : Nat → Int → ByteArray → Option (ByteArray)
 | 0, _, _ => none
 | k + 1, x0, x3 => if x0 > 0 then ((some (([(wrap64 (48 + (Int.tmod x0 10))) % 256] : List Int) : List Int)).bind fun y208 => (if (strOfNums y208).size + x3.size ≤ 9223372036854775807 then (laws_markText.l0 k (wrap64 (Int.tdiv x0 10)) ((strOfNums y208) ++ x3)) else (none))) else (if 1 + x3.size ≤ 9223372036854775807 then (some ((⟨#[109]⟩ : ByteArray) ++ x3)) else (none))
def laws_markText.f (k : Nat) (a0 : Int) : Option (ByteArray) := if a0 ≤ 0 then (some (⟨#[109, 48]⟩ : ByteArray)) else (laws_markText.l0 k a0 (⟨#[]⟩ : ByteArray))
theorem laws_markText.calls (k : Nat) (a0 : Int) (r : ByteArray) (w : World) (h : laws_markText.f k a0 = some r) :
  Calls Try.prog 85 #[.int .i64 a0] w fun e w' => e = .returned (.string r) ∧ Below w.heap.size w w' := by
 have HB := aM (Below.refl w.heap.size w)
 have H : (if a0 ≤ 0 then (some (⟨#[109, 48]⟩ : ByteArray)) else (laws_markText.l0 k a0 (⟨#[]⟩ : ByteArray))) = some r := h
 clear h
 by_cases c2 : a0 ≤ 0
 ·rw [if_pos c2] at H
  have c2b0 : decide (a0 ≤ 0) = true := decide_eq_true c2
  clear c2
  obtain rfl := Option.some.inj H
  go_enter Try.func85, Try.ntmps85
  go_wp2
  go_ret
  exact ⟨by rfl, by repeat ((with_reducible exact HB.out))⟩
 rw [if_neg c2] at H
 have c2b0 : decide (a0 ≤ 0) = false := decide_eq_false c2
 clear c2
 have H' := aM H
 clear H
 go_enter Try.func85, Try.ntmps85
 go_wp2
 go_loopg [0, 3] k (fun kq v0 v3 w' => ∃ (x0_1 : Int) (x3_1 : ByteArray), v0 = .int .i64 x0_1 ∧ v3 = .string x3_1 ∧ Aside0 (laws_markText.l0 kq x0_1 x3_1 = some r) ∧ Aside0 (kq ≤ k) ∧ Aside0 (Below w.heap.size w w'))
 case atStart => exact ⟨(a0), ((⟨#[]⟩ : ByteArray)), (by rfl), (by rfl), H', ⟨Nat.le_refl _⟩, ⟨by repeat ((with_reducible exact HB.out))⟩⟩
 clear H'
 (try clear c2b0)
 obtain ⟨x0_1, x3_1, rfl, rfl, HA, HK1, HB⟩ := hrel
 cases gk with
 | zero => exact absurd HA.out (by simp [laws_markText.l0])
 | succ k1 =>
  have H := HA.out
  clear HA
  simp only [laws_markText.l0] at H
  by_cases c3 : x0_1 > 0
  rotate_left
  ·rw [if_neg c3] at H
   have c3b0 : decide (0 < x0_1) = false := decide_eq_false c3
   clear c3
   by_cases c8 : 1 + x3_1.size ≤ 9223372036854775807
   rotate_left
   ·rw [if_neg c8] at H
    exact absurd H (by simp)
   rw [if_pos c8] at H
   have c8b0 := eq_true c8
   have c8b1 : decide (1 + x3_1.size ≤ 9223372036854775807) = true := decide_eq_true c8
   try have c8b2 : (9223372036854775807 < 1 + x3_1.size) = False := eq_false (Nat.not_lt.2 c8)
   obtain rfl := Option.some.inj H
   go_wp2
   go_ret
   exact ⟨by rfl, by repeat ((with_reducible exact HB.out))⟩
  rw [if_pos c3] at H
  have c3b0 : decide (0 < x0_1) = true := decide_eq_true c3
  clear c3
  obtain ⟨y208, hy208⟩ : ∃ y_ : List Int, y_ = (([(wrap64 (48 + (Int.tmod x0_1 10))) % 256] : List Int)) := ⟨_, rfl⟩
  replace H : (if (strOfNums y208).size + x3_1.size ≤ 9223372036854775807 then (laws_markText.l0 k1 (wrap64 (Int.tdiv x0_1 10)) ((strOfNums y208) ++ x3_1)) else (none)) = some r := by (have H2_ := (Option.bind_some _ _).symm.trans H; rw [hy208]; with_reducible exact H2_)
  have Ny208 := aM hy208
  clear hy208
  by_cases c4 : (strOfNums y208).size + x3_1.size ≤ 9223372036854775807
  rotate_left
  ·rw [if_neg c4] at H
   exact absurd H (by simp)
  rw [if_pos c4] at H
  have c4b0 := eq_true c4
  have c4b1 : decide ((strOfNums y208).size + x3_1.size ≤ 9223372036854775807) = true := decide_eq_true c4
  try have c4b2 : (9223372036854775807 < (strOfNums y208).size + x3_1.size) = False := eq_false (Nat.not_lt.2 c4)
  have H' := aM H
  clear H
  go_wp2_with (((with_reducible refine gate_dst (N := 12) rfl ?_); refine Kd.R_lit (Kd.int .u8) _ 5 ?hg (N := 12) ?hd (xs := ([(wrap64 (48 + (Int.tmod x0_1 10))) % 256] : List Int)) (inner := [.int .u8 ((wrap64 (48 + (Int.tmod x0_1 10))) % 256)]) (ok := fun _ => True) (okp := fun _ => True) ?hr ?hp (fun _ hk => hk) trivial (Below.refl _ _) (Nat.le_refl _) (by simp) ?_; (case hd => rfl); (case hg => rfl); (case hr => (go_simp; done)); (case hp => exact (Reps.one (show Kd.M (Kd.int .u8) _ _ _ ((wrap64 (48 + (Int.tmod x0_1 10))) % 256) [.int .u8 ((wrap64 (48 + (Int.tmod x0_1 10))) % 256)] from rfl) (Reps.none _ _))); intro v209 w5 ho6 hb hg_ hnew_; clear hg_ hnew_; (rw [← Ny208.out] at ho6); have HO210 := aM (Kd.R_lower ho6 (below_size HB.out)); replace HB := aB HB hb; clear hb ho6; have hcv7 := own_string (P := Try.prog) Try.underlying135 Try.underlying5 Try.underlying9 (Kd.own_of_R HO210.out)))
  go_roundg k1
  case measure => have := HK1.out; omega
  case rel => exact ⟨(wrap64 (Int.tdiv x0_1 10)), ((strOfNums y208) ++ x3_1), (by rfl), (by rfl), H', ⟨by have := HK1.out; omega⟩, ⟨by repeat ((with_reducible exact HB.out))⟩⟩
def laws_markStringS.l0 : Nat → List ByteArray → Int → Int → Option (Int × List ByteArray)
 | 0, _, _, _ => none
 | k + 1, x0, x1, x5 => if x5 < (x0.length : Int) then ((laws_markText.f k x1).bind fun t211 => (if 0 ≤ x5 then (laws_markStringS.l0 k (x0.set (x5 : Int).toNat t211) (wrap64 (x1 + 1)) (wrap64 (x5 + 1))) else (none))) else (some (x1, x0))
def laws_markStringS.f (k : Nat) (l0 : List ByteArray) (a1 : Int) : Option (Int × List ByteArray) := laws_markStringS.l0 k l0 a1 0
theorem laws_markStringS.calls (k : Nat) (P0_ : Nat → Prop) (u9000_ : Value) (l0 : List ByteArray) (a1 : Int) (r1 : Int) (r2 : List ByteArray) (w0 w : World) (hB : Below w0.heap.size w0 w) (ho0 : Kd.R Kd.string 9 w w0.heap.size P0_ u9000_ l0) (h : laws_markStringS.f k l0 a1 = some (r1, r2)) :
  Calls Try.prog 54 #[u9000_, .int .i64 a1] w fun e w' => e = .returned (.int .i64 r1) ∧ Kd.R Kd.string 9 w' w0.heap.size (fun k_ => (P0_ k_ ∨ w.heap.size ≤ k_)) u9000_ r2 ∧ Below w0.heap.size w0 w' ∧ Kept w w' (fun k_ => P0_ k_) := by
 have HO0 := aM (show Kd.R Kd.string 9 w w0.heap.size (fun k_ => (P0_ k_ ∨ w.heap.size ≤ k_)) u9000_ l0 from Kd.R_mono ho0 (fun k_ hk => (.inl hk)))
 have HK := aM (Kept.refl w (fun k_ => P0_ k_))
 have HW0 := aM hB.size
 have HB := aM hB
 clear hB
 have H : (laws_markStringS.l0 k l0 a1 0) = some (r1, r2) := h
 clear h
 have H' := aM H
 clear H
 go_enter Try.func54, Try.ntmps54
 go_wp2
 go_loopg [1, 5] k (fun kq v1 v5 w' => ∃ (x0_1 : List ByteArray) (x1_1 : Int) (x5_1 : Int), v1 = .int .i64 x1_1 ∧ v5 = .int .i64 x5_1 ∧ Aside0 (laws_markStringS.l0 kq x0_1 x1_1 x5_1 = some (r1, r2)) ∧ Aside0 (kq ≤ k) ∧ Aside0 (Kd.R Kd.string 9 w' w0.heap.size (fun k_ => (P0_ k_ ∨ w.heap.size ≤ k_)) u9000_ x0_1) ∧ Aside0 (Kept w w' (fun k_ => P0_ k_)) ∧ Aside0 (Below w0.heap.size w0 w'))
 case atStart => exact ⟨(l0), (a1), (0), (by rfl), (by rfl), H', ⟨Nat.le_refl _⟩, ⟨by exact HO0.out⟩, ⟨by repeat ((with_reducible exact HK.out))⟩, ⟨by repeat ((with_reducible exact HB.out))⟩⟩
 clear H'
 obtain ⟨x0_1, x1_1, x5_1, rfl, rfl, HA, HK1, HO_0, HK, HB⟩ := hrel
 cases gk with
 | zero => exact absurd HA.out (by simp [laws_markStringS.l0])
 | succ k1 =>
  have H := HA.out
  clear HA
  simp only [laws_markStringS.l0] at H
  by_cases c3 : x5_1 < (x0_1.length : Int)
  rotate_left
  ·rw [if_neg c3] at H
   have c3b0 : decide (x5_1 < (x0_1.length : Int)) = false := decide_eq_false c3
   clear c3
   simp only [Option.some.injEq, Prod.mk.injEq] at H
   obtain ⟨rfl, rfl⟩ := H
   obtain ⟨Ao11, co11, eo11⟩ := Kd.R_slice HO_0.out
   subst eo11
   go_wp2
   go_ret
   exact ⟨by rfl, by exact HO_0.out, by repeat ((with_reducible exact HB.out)), by repeat ((with_reducible exact HK.out))⟩
  rw [if_pos c3] at H
  have c3b0 : decide (x5_1 < (x0_1.length : Int)) = true := decide_eq_true c3
  clear c3
  replace H := bS H
  obtain ⟨t211, A40, H⟩ := H
  replace H : (if 0 ≤ x5_1 then (laws_markStringS.l0 k1 (x0_1.set (x5_1 : Int).toNat t211) (wrap64 (x1_1 + 1)) (wrap64 (x5_1 + 1))) else (none)) = some (r1, r2) := H
  have A4 := aM A40
  clear A40
  by_cases c5 : 0 ≤ x5_1
  rotate_left
  ·rw [if_neg c5] at H
   exact absurd H (by simp)
  rw [if_pos c5] at H
  have c5b0 : decide (0 ≤ x5_1) = true := decide_eq_true c5
  clear c5
  obtain ⟨y212, hy212⟩ : ∃ y_ : List ByteArray, y_ = (x0_1.set (x5_1 : Int).toNat t211) := ⟨_, rfl⟩
  replace H : (laws_markStringS.l0 k1 y212 (wrap64 (x1_1 + 1)) (wrap64 (x5_1 + 1))) = some (r1, r2) := by (rw [hy212]; with_reducible exact H)
  have Ny212 := aM hy212
  clear hy212
  have H' := aM H
  clear H
  obtain ⟨Ao7, co7, eo7⟩ := Kd.R_slice HO_0.out
  subst eo7
  go_wp2_with (first | (go_at_call 85; (with_reducible refine (laws_markText.calls k1 x1_1 t211 _ A4.out).mono ?_); rintro e w8 ⟨rfl, hb⟩; replace HO_0 := aM (Kd.R_below HO_0.out hb); replace HK := aM (Kept.below (S := (fun k_ => P0_ k_)) HK.out hb); replace HB := aB HB hb; (try clear hb); have p6 : 0 ≤ (x5_1 : Int) := oD ‹_›; have q6 : (x5_1 : Int) < ((x0_1.length : Int) : Int) := oD ‹_›; obtain ⟨go6, co6, eo6, gb6, gl6, cl6, HG6⟩ := Kd.R_form HO_0.out (by omega); (cases eo6); have GB6 := aM gb6; have GG6 := aM HG6; clear gb6 gl6 HG6; have HMgo6 := aM (show (P0_ go6 ∨ w.heap.size ≤ go6) from (HO_0.out.1 _ rfl)); obtain ⟨hx6_0, hf6_0⟩ := Kd.R_celln (⟨#[]⟩ : ByteArray) HO_0.out (x5_1 : Int) p6 q6; replace p6 := eq_true p6; replace q6 := eq_true q6; obtain ⟨hy9_, hz9_⟩ := Kd.R_celln (⟨#[]⟩ : ByteArray) HO_0.out (x5_1 : Int) (oD ‹_›) (oD ‹_›); have HP9 := Kd.R_putg HO_0.out (x5_1 : Int) t211) | ((with_reducible refine gate_store (t := 9) (p := 16) rfl ?_); refine store_event (t := 9) (p := 16) (v := ?vo_w10) (w1 := (w8.setCell ⟨go6, (x5_1 : Int).toNat, none⟩ (.string t211))) ?hg ?ho ?hn ?hr ?_; (case ho => rfl); (case hg => rfl); (case hn => rfl); (case hr => (go_simp; done)); intro w10 hw; have hg : w8.grownBy w10 (some go6) := (by rw [hw]; exact HP9.2); have hp_ : Kd.R Kd.string 9 w10 w0.heap.size (fun k_ => (P0_ k_ ∨ w.heap.size ≤ k_)) (.slice (some ⟨go6, 0, none⟩) x0_1.length co7) y212 := (by rw [hw, Ny212.out]; exact HP9.1); clear HP9; replace HB := aM ((by rw [hw]; exact below_set (HB.out) GB6.out : Below w0.heap.size w0 w10)); replace HK := aM (Kept.of_grown (S := (fun k_ => P0_ k_)) hg HK.out (fun k_ e_ => (HO_0.out.1 k_ e_))); replace HO_0 := aM (hp_); clear hg hw hp_))
  go_roundg k1
  case measure => have := HK1.out; omega
  case rel => exact ⟨(y212), (wrap64 (x1_1 + 1)), (wrap64 (x5_1 + 1)), (by rfl), (by rfl), H', ⟨by have := HK1.out; omega⟩, ⟨by exact HO_0.out⟩, ⟨by repeat ((with_reducible exact HK.out))⟩, ⟨by repeat ((with_reducible exact HB.out))⟩⟩
def laws_markLinkS.l0 : Nat → List (S92) → Int → Int → Option (Int × (List (S92)))
 | 0, _, _, _ => none
 | k + 1, x0, x1, x5 => if x5 < (x0.length : Int) then (if 0 ≤ x5 then ((some (x0.set (x5 : Int).toNat (⟨x1, (rd_T92 x0 x5).f1, (rd_T92 x0 x5).f2⟩ : S92) : List (S92))).bind fun y213 => ((some (y213.set (x5 : Int).toNat (⟨(rd_T92 y213 x5).f0, wrap64 (x1 + 1), (rd_T92 y213 x5).f2⟩ : S92) : List (S92))).bind fun y214 => (laws_markLinkS.l0 k (y214.set (x5 : Int).toNat (⟨(rd_T92 y214 x5).f0, (rd_T92 y214 x5).f1, wrap64 ((wrap64 (x1 + 1)) + 1)⟩ : S92)) (wrap64 ((wrap64 ((wrap64 (x1 + 1)) + 1)) + 1)) (wrap64 (x5 + 1))))) else (none)) else (some (x1, x0))
def laws_markLinkS.f (k : Nat) (l0 : List (S92)) (a1 : Int) : Option (Int × (List (S92))) := laws_markLinkS.l0 k l0 a1 0
theorem laws_markLinkS.calls (k : Nat) (P0_ : Nat → Prop) (u9000_ : Value) (l0 : List (S92)) (a1 : Int) (r1 : Int) (r2 : List (S92)) (w0 w : World) (hB : Below w0.heap.size w0 w) (ho0 : Kd.R k92 92 w w0.heap.size P0_ u9000_ l0) (h : laws_markLinkS.f k l0 a1 = some (r1, r2)) :
  Calls Try.prog 55 #[u9000_, .int .i64 a1] w fun e w' => e = .returned (.int .i64 r1) ∧ Kd.R k92 92 w' w0.heap.size (fun k_ => (P0_ k_ ∨ w.heap.size ≤ k_)) u9000_ r2 ∧ Below w0.heap.size w0 w' ∧ Kept w w' (fun k_ => P0_ k_) := by
 have HO0 := aM (show Kd.R k92 92 w w0.heap.size (fun k_ => (P0_ k_ ∨ w.heap.size ≤ k_)) u9000_ l0 from Kd.R_mono ho0 (fun k_ hk => (.inl hk)))
 have HK := aM (Kept.refl w (fun k_ => P0_ k_))
 have HW0 := aM hB.size
 have HB := aM hB
 clear hB
 have H : (laws_markLinkS.l0 k l0 a1 0) = some (r1, r2) := h
 clear h
 have H' := aM H
 clear H
 go_enter Try.func55, Try.ntmps55
 go_wp2
 go_loopg [1, 5] k (fun kq v1 v5 w' => ∃ (x0_1 : List (S92)) (x1_1 : Int) (x5_1 : Int), v1 = .int .i64 x1_1 ∧ v5 = .int .i64 x5_1 ∧ Aside0 (laws_markLinkS.l0 kq x0_1 x1_1 x5_1 = some (r1, r2)) ∧ Aside0 (kq ≤ k) ∧ Aside0 (Kd.R k92 92 w' w0.heap.size (fun k_ => (P0_ k_ ∨ w.heap.size ≤ k_)) u9000_ x0_1) ∧ Aside0 (Kept w w' (fun k_ => P0_ k_)) ∧ Aside0 (Below w0.heap.size w0 w'))
 case atStart => exact ⟨(l0), (a1), (0), (by rfl), (by rfl), H', ⟨Nat.le_refl _⟩, ⟨by exact HO0.out⟩, ⟨by repeat ((with_reducible exact HK.out))⟩, ⟨by repeat ((with_reducible exact HB.out))⟩⟩
 clear H'
 obtain ⟨x0_1, x1_1, x5_1, rfl, rfl, HA, HK1, HO_0, HK, HB⟩ := hrel
 cases gk with
 | zero => exact absurd HA.out (by simp [laws_markLinkS.l0])
 | succ k1 =>
  have H := HA.out
  clear HA
  simp only [laws_markLinkS.l0] at H
  by_cases c3 : x5_1 < (x0_1.length : Int)
  rotate_left
  ·rw [if_neg c3] at H
   have c3b0 : decide (x5_1 < (x0_1.length : Int)) = false := decide_eq_false c3
   clear c3
   simp only [Option.some.injEq, Prod.mk.injEq] at H
   obtain ⟨rfl, rfl⟩ := H
   obtain ⟨Ao15, co15, eo15⟩ := Kd.R_slice HO_0.out
   subst eo15
   go_wp2
   go_ret
   exact ⟨by rfl, by exact HO_0.out, by repeat ((with_reducible exact HB.out)), by repeat ((with_reducible exact HK.out))⟩
  rw [if_pos c3] at H
  have c3b0 : decide (x5_1 < (x0_1.length : Int)) = true := decide_eq_true c3
  clear c3
  by_cases c4 : 0 ≤ x5_1
  rotate_left
  ·rw [if_neg c4] at H
   exact absurd H (by simp)
  rw [if_pos c4] at H
  have c4b0 : decide (0 ≤ x5_1) = true := decide_eq_true c4
  clear c4
  obtain ⟨y213, hy213⟩ : ∃ y_ : List (S92), y_ = (x0_1.set (x5_1 : Int).toNat (⟨x1_1, (rd_T92 x0_1 x5_1).f1, (rd_T92 x0_1 x5_1).f2⟩ : S92)) := ⟨_, rfl⟩
  replace H : ((some (y213.set (x5_1 : Int).toNat (⟨(rd_T92 y213 x5_1).f0, wrap64 (x1_1 + 1), (rd_T92 y213 x5_1).f2⟩ : S92) : List (S92))).bind fun y214 => (laws_markLinkS.l0 k1 (y214.set (x5_1 : Int).toNat (⟨(rd_T92 y214 x5_1).f0, (rd_T92 y214 x5_1).f1, wrap64 ((wrap64 (x1_1 + 1)) + 1)⟩ : S92)) (wrap64 ((wrap64 ((wrap64 (x1_1 + 1)) + 1)) + 1)) (wrap64 (x5_1 + 1)))) = some (r1, r2) := by (have H2_ := (Option.bind_some _ _).symm.trans H; rw [hy213]; with_reducible exact H2_)
  have Ny213 := aM hy213
  clear hy213
  obtain ⟨y214, hy214⟩ : ∃ y_ : List (S92), y_ = (y213.set (x5_1 : Int).toNat (⟨(rd_T92 y213 x5_1).f0, wrap64 (x1_1 + 1), (rd_T92 y213 x5_1).f2⟩ : S92)) := ⟨_, rfl⟩
  replace H : (laws_markLinkS.l0 k1 (y214.set (x5_1 : Int).toNat (⟨(rd_T92 y214 x5_1).f0, (rd_T92 y214 x5_1).f1, wrap64 ((wrap64 (x1_1 + 1)) + 1)⟩ : S92)) (wrap64 ((wrap64 ((wrap64 (x1_1 + 1)) + 1)) + 1)) (wrap64 (x5_1 + 1))) = some (r1, r2) := by (have H2_ := (Option.bind_some _ _).symm.trans H; rw [hy214]; with_reducible exact H2_)
  have Ny214 := aM hy214
  clear hy214
  obtain ⟨y215, hy215⟩ : ∃ y_ : List (S92), y_ = (y214.set (x5_1 : Int).toNat (⟨(rd_T92 y214 x5_1).f0, (rd_T92 y214 x5_1).f1, wrap64 ((wrap64 (x1_1 + 1)) + 1)⟩ : S92)) := ⟨_, rfl⟩
  replace H : (laws_markLinkS.l0 k1 y215 (wrap64 ((wrap64 ((wrap64 (x1_1 + 1)) + 1)) + 1)) (wrap64 (x5_1 + 1))) = some (r1, r2) := by (rw [hy215]; with_reducible exact H)
  have Ny215 := aM hy215
  clear hy215
  have H' := aM H
  clear H
  obtain ⟨Ao8, co8, eo8⟩ := Kd.R_slice HO_0.out
  subst eo8
  have p5 : 0 ≤ (x5_1 : Int) := oD ‹_›
  have q5 : (x5_1 : Int) < ((x0_1.length : Int) : Int) := oD ‹_›
  obtain ⟨go5, co5, eo5, gb5, gl5, cl5, HG5⟩ := Kd.R_form HO_0.out (by omega)
  (cases eo5)
  have GB5 := aM gb5
  have GG5 := aM HG5
  clear gb5 gl5 HG5
  have HMgo5 := aM (show (P0_ go5 ∨ w.heap.size ≤ go5) from (HO_0.out.1 _ rfl))
  obtain ⟨ce5, hcl5, hM5, hcc5, hfr5⟩ := Kd.R_elem HO_0.out z92 (x5_1 : Int) p5 q5
  obtain rfl := k92_openM hM5
  have hx5_0 : wr.cell? ⟨go5, (x5_1 : Int).toNat * 3, none⟩ = some (.int .i64 ((rd_T92 x0_1 x5_1).f0)) := hcc5 0 _ rfl
  have hx5_1 : wr.cell? ⟨go5, (x5_1 : Int).toNat * 3 + 1, none⟩ = some (.int .i64 ((rd_T92 x0_1 x5_1).f1)) := hcc5 1 _ rfl
  have hx5_2 : wr.cell? ⟨go5, (x5_1 : Int).toNat * 3 + 2, none⟩ = some (.int .i64 ((rd_T92 x0_1 x5_1).f2)) := hcc5 2 _ rfl
  have hf5_0 : wr.frozen? ⟨go5, (x5_1 : Int).toNat * 3, none⟩ = false := hfr5 0
  have hf5_1 : wr.frozen? ⟨go5, (x5_1 : Int).toNat * 3 + 1, none⟩ = false := hfr5 1
  have hf5_2 : wr.frozen? ⟨go5, (x5_1 : Int).toNat * 3 + 2, none⟩ = false := hfr5 2
  clear hcl5 hcc5 hfr5; (try clear hM5)
  replace p5 := eq_true p5
  replace q5 := eq_true q5
  have HX9 := aM (show Kd.R k92 92 wr w0.heap.size (fun k_ => (P0_ k_ ∨ w.heap.size ≤ k_)) (.slice (some ⟨go5, 0, none⟩) x0_1.length co8) x0_1 from HO_0.out)
  obtain ⟨ce9, hcl9, hM9, hcc9, hfr9⟩ := Kd.R_elem HX9.out z92 (x5_1 : Int) (oD ‹_›) (by have h_ : (x5_1 : Int) < ((x0_1.length : Int) : Int) := oD ‹_›; exact h_)
  obtain rfl := k92_openM hM9
  have HP9 := Kd.R_seg HX9.out (x5_1 : Int) (oD ‹_›) (by have h_ : (x5_1 : Int) < ((x0_1.length : Int) : Int) := oD ‹_›; exact h_) (seg := [.int .i64 x1_1]) (j := 0) hcl9 hcc9 (show 1 ≤ 3 from by decide) (x' := (⟨x1_1, (rd_T92 x0_1 x5_1).f1, (rd_T92 x0_1 x5_1).f2⟩ : S92)) (k92_mkM _ _ _ (⟨x1_1, (rd_T92 x0_1 x5_1).f1, (rd_T92 x0_1 x5_1).f2⟩ : S92) ) (fun _ hk => hk)
  have hx9_0 := hcc9 0 _ rfl
  (try simp only [show (k92).sz = 3 from rfl, Nat.mul_one, Nat.add_zero] at hx9_0)
  have hf9_0 := hfr9 0
  (try simp only [show (k92).sz = 3 from rfl, Nat.mul_one, Nat.add_zero] at hf9_0)
  clear hcl9 hcc9 hfr9; (try clear hM9)
  go_wp2_with (first | ((with_reducible refine gate_store (t := 3) (p := 16) rfl ?_); refine store_event (t := 3) (p := 16) (v := ?vo_w10) (w1 := (wr.setCell ⟨go5, (x5_1 : Int).toNat * 3, none⟩ (.int .i64 x1_1))) ?hg ?ho ?hn ?hr ?_; (case ho => rfl); (case hg => rfl); (case hn => rfl); (case hr => (go_simp; done)); intro w10 hw; have hg : wr.grownBy w10 (some go5) := (by rw [hw]; exact HP9.2); have hp_ : Kd.R k92 92 w10 w0.heap.size (fun k_ => (P0_ k_ ∨ w.heap.size ≤ k_)) (.slice (some ⟨go5, 0, none⟩) x0_1.length co8) y213 := (by rw [hw, Ny213.out]; exact HP9.1); clear HP9; replace HB := aM ((by rw [hw]; exact below_set (HB.out) GB5.out : Below w0.heap.size w0 w10)); replace HK := aM (Kept.of_grown (S := (fun k_ => P0_ k_)) hg HK.out (fun k_ e_ => (HO_0.out.1 k_ e_))); replace HO_0 := aM (hp_); clear hg hw hp_; have p6 : 0 ≤ (x5_1 : Int) := oD ‹_›; have q6 : (x5_1 : Int) < ((x0_1.length : Int) : Int) := oD ‹_›; obtain ⟨ce6, hcl6, hM6, hcc6, hfr6⟩ := Kd.R_elem HO_0.out z92 (x5_1 : Int) p6 q6; obtain rfl := k92_openM hM6; have hx6_0 : w10.cell? ⟨go5, (x5_1 : Int).toNat * 3, none⟩ = some (.int .i64 ((rd_T92 y213 x5_1).f0)) := hcc6 0 _ rfl; have hx6_1 : w10.cell? ⟨go5, (x5_1 : Int).toNat * 3 + 1, none⟩ = some (.int .i64 ((rd_T92 y213 x5_1).f1)) := hcc6 1 _ rfl; have hx6_2 : w10.cell? ⟨go5, (x5_1 : Int).toNat * 3 + 2, none⟩ = some (.int .i64 ((rd_T92 y213 x5_1).f2)) := hcc6 2 _ rfl; have hf6_0 : w10.frozen? ⟨go5, (x5_1 : Int).toNat * 3, none⟩ = false := hfr6 0; have hf6_1 : w10.frozen? ⟨go5, (x5_1 : Int).toNat * 3 + 1, none⟩ = false := hfr6 1; have hf6_2 : w10.frozen? ⟨go5, (x5_1 : Int).toNat * 3 + 2, none⟩ = false := hfr6 2; clear hcl6 hcc6 hfr6; (try clear hM6); replace p6 := eq_true p6; replace q6 := eq_true q6; have HX11 := aM (show Kd.R k92 92 w10 w0.heap.size (fun k_ => (P0_ k_ ∨ w.heap.size ≤ k_)) (.slice (some ⟨go5, 0, none⟩) x0_1.length co8) y213 from HO_0.out); obtain ⟨ce11, hcl11, hM11, hcc11, hfr11⟩ := Kd.R_elem HX11.out z92 (x5_1 : Int) (oD ‹_›) (by have h_ : (x5_1 : Int) < ((x0_1.length : Int) : Int) := oD ‹_›; exact h_); obtain rfl := k92_openM hM11; have HP11 := Kd.R_seg HX11.out (x5_1 : Int) (oD ‹_›) (by have h_ : (x5_1 : Int) < ((x0_1.length : Int) : Int) := oD ‹_›; exact h_) (seg := [.int .i64 (wrap64 (x1_1 + 1))]) (j := 1) hcl11 hcc11 (show 2 ≤ 3 from by decide) (x' := (⟨(rd_T92 y213 x5_1).f0, wrap64 (x1_1 + 1), (rd_T92 y213 x5_1).f2⟩ : S92)) (k92_mkM _ _ _ (⟨(rd_T92 y213 x5_1).f0, wrap64 (x1_1 + 1), (rd_T92 y213 x5_1).f2⟩ : S92) ) (fun _ hk => hk); have hx11_1 := hcc11 1 _ rfl; (try simp only [show (k92).sz = 3 from rfl, Nat.mul_one, Nat.add_zero] at hx11_1); have hf11_1 := hfr11 1; (try simp only [show (k92).sz = 3 from rfl, Nat.mul_one, Nat.add_zero] at hf11_1); clear hcl11 hcc11 hfr11; (try clear hM11)) | ((with_reducible refine gate_store (t := 3) (p := 23) rfl ?_); refine store_event (t := 3) (p := 23) (v := ?vo_w12) (w1 := (w10.setCell ⟨go5, (x5_1 : Int).toNat * 3 + 1, none⟩ (.int .i64 (wrap64 (x1_1 + 1))))) ?hg ?ho ?hn ?hr ?_; (case ho => rfl); (case hg => rfl); (case hn => rfl); (case hr => (go_simp; done)); intro w12 hw; have hg : w10.grownBy w12 (some go5) := (by rw [hw]; exact HP11.2); have hp_ : Kd.R k92 92 w12 w0.heap.size (fun k_ => (P0_ k_ ∨ w.heap.size ≤ k_)) (.slice (some ⟨go5, 0, none⟩) x0_1.length co8) y214 := (by rw [hw, Ny214.out]; exact HP11.1); clear HP11; replace HB := aM ((by rw [hw]; exact below_set (HB.out) GB5.out : Below w0.heap.size w0 w12)); replace HK := aM (Kept.of_grown (S := (fun k_ => P0_ k_)) hg HK.out (fun k_ e_ => (HO_0.out.1 k_ e_))); replace HO_0 := aM (hp_); clear hg hw hp_; have p7 : 0 ≤ (x5_1 : Int) := oD ‹_›; have q7 : (x5_1 : Int) < ((x0_1.length : Int) : Int) := oD ‹_›; obtain ⟨ce7, hcl7, hM7, hcc7, hfr7⟩ := Kd.R_elem HO_0.out z92 (x5_1 : Int) p7 q7; obtain rfl := k92_openM hM7; have hx7_0 : w12.cell? ⟨go5, (x5_1 : Int).toNat * 3, none⟩ = some (.int .i64 ((rd_T92 y214 x5_1).f0)) := hcc7 0 _ rfl; have hx7_1 : w12.cell? ⟨go5, (x5_1 : Int).toNat * 3 + 1, none⟩ = some (.int .i64 ((rd_T92 y214 x5_1).f1)) := hcc7 1 _ rfl; have hx7_2 : w12.cell? ⟨go5, (x5_1 : Int).toNat * 3 + 2, none⟩ = some (.int .i64 ((rd_T92 y214 x5_1).f2)) := hcc7 2 _ rfl; have hf7_0 : w12.frozen? ⟨go5, (x5_1 : Int).toNat * 3, none⟩ = false := hfr7 0; have hf7_1 : w12.frozen? ⟨go5, (x5_1 : Int).toNat * 3 + 1, none⟩ = false := hfr7 1; have hf7_2 : w12.frozen? ⟨go5, (x5_1 : Int).toNat * 3 + 2, none⟩ = false := hfr7 2; clear hcl7 hcc7 hfr7; (try clear hM7); replace p7 := eq_true p7; replace q7 := eq_true q7; have HX13 := aM (show Kd.R k92 92 w12 w0.heap.size (fun k_ => (P0_ k_ ∨ w.heap.size ≤ k_)) (.slice (some ⟨go5, 0, none⟩) x0_1.length co8) y214 from HO_0.out); obtain ⟨ce13, hcl13, hM13, hcc13, hfr13⟩ := Kd.R_elem HX13.out z92 (x5_1 : Int) (oD ‹_›) (by have h_ : (x5_1 : Int) < ((x0_1.length : Int) : Int) := oD ‹_›; exact h_); obtain rfl := k92_openM hM13; have HP13 := Kd.R_seg HX13.out (x5_1 : Int) (oD ‹_›) (by have h_ : (x5_1 : Int) < ((x0_1.length : Int) : Int) := oD ‹_›; exact h_) (seg := [.int .i64 (wrap64 ((wrap64 (x1_1 + 1)) + 1))]) (j := 2) hcl13 hcc13 (show 3 ≤ 3 from by decide) (x' := (⟨(rd_T92 y214 x5_1).f0, (rd_T92 y214 x5_1).f1, wrap64 ((wrap64 (x1_1 + 1)) + 1)⟩ : S92)) (k92_mkM _ _ _ (⟨(rd_T92 y214 x5_1).f0, (rd_T92 y214 x5_1).f1, wrap64 ((wrap64 (x1_1 + 1)) + 1)⟩ : S92) ) (fun _ hk => hk); have hx13_2 := hcc13 2 _ rfl; (try simp only [show (k92).sz = 3 from rfl, Nat.mul_one, Nat.add_zero] at hx13_2); have hf13_2 := hfr13 2; (try simp only [show (k92).sz = 3 from rfl, Nat.mul_one, Nat.add_zero] at hf13_2); clear hcl13 hcc13 hfr13; (try clear hM13)) | ((with_reducible refine gate_store (t := 3) (p := 30) rfl ?_); refine store_event (t := 3) (p := 30) (v := ?vo_w14) (w1 := (w12.setCell ⟨go5, (x5_1 : Int).toNat * 3 + 2, none⟩ (.int .i64 (wrap64 ((wrap64 (x1_1 + 1)) + 1))))) ?hg ?ho ?hn ?hr ?_; (case ho => rfl); (case hg => rfl); (case hn => rfl); (case hr => (go_simp; done)); intro w14 hw; have hg : w12.grownBy w14 (some go5) := (by rw [hw]; exact HP13.2); have hp_ : Kd.R k92 92 w14 w0.heap.size (fun k_ => (P0_ k_ ∨ w.heap.size ≤ k_)) (.slice (some ⟨go5, 0, none⟩) x0_1.length co8) y215 := (by rw [hw, Ny215.out]; exact HP13.1); clear HP13; replace HB := aM ((by rw [hw]; exact below_set (HB.out) GB5.out : Below w0.heap.size w0 w14)); replace HK := aM (Kept.of_grown (S := (fun k_ => P0_ k_)) hg HK.out (fun k_ e_ => (HO_0.out.1 k_ e_))); replace HO_0 := aM (hp_); clear hg hw hp_))
  go_roundg k1
  case measure => have := HK1.out; omega
  case rel => exact ⟨(y215), (wrap64 ((wrap64 ((wrap64 (x1_1 + 1)) + 1)) + 1)), (wrap64 (x5_1 + 1)), (by rfl), (by rfl), H', ⟨by have := HK1.out; omega⟩, ⟨by exact HO_0.out⟩, ⟨by repeat ((with_reducible exact HK.out))⟩, ⟨by repeat ((with_reducible exact HB.out))⟩⟩
def laws_markImportS.l0 : Nat → List (S95) → Int → Int → Option (Int × (List (S95)))
 | 0, _, _, _ => none
 | k + 1, x0, x1, x5 => if x5 < (x0.length : Int) then (if 0 ≤ x5 then ((some (x0.set (x5 : Int).toNat (⟨x1, (rd_T95 x0 x5).f1, (rd_T95 x0 x5).f2, (rd_T95 x0 x5).f3, (rd_T95 x0 x5).f4⟩ : S95) : List (S95))).bind fun y216 => ((some (y216.set (x5 : Int).toNat (⟨(rd_T95 y216 x5).f0, wrap64 (x1 + 1), (rd_T95 y216 x5).f2, (rd_T95 y216 x5).f3, (rd_T95 y216 x5).f4⟩ : S95) : List (S95))).bind fun y217 => ((some (y217.set (x5 : Int).toNat (⟨(rd_T95 y217 x5).f0, (rd_T95 y217 x5).f1, wrap64 ((wrap64 (x1 + 1)) + 1), (rd_T95 y217 x5).f3, (rd_T95 y217 x5).f4⟩ : S95) : List (S95))).bind fun y218 => ((some (y218.set (x5 : Int).toNat (⟨(rd_T95 y218 x5).f0, (rd_T95 y218 x5).f1, (rd_T95 y218 x5).f2, wrap64 ((wrap64 ((wrap64 (x1 + 1)) + 1)) + 1), (rd_T95 y218 x5).f4⟩ : S95) : List (S95))).bind fun y219 => (laws_markImportS.l0 k (y219.set (x5 : Int).toNat (⟨(rd_T95 y219 x5).f0, (rd_T95 y219 x5).f1, (rd_T95 y219 x5).f2, (rd_T95 y219 x5).f3, wrap64 ((wrap64 ((wrap64 ((wrap64 (x1 + 1)) + 1)) + 1)) + 1)⟩ : S95)) (wrap64 ((wrap64 ((wrap64 ((wrap64 ((wrap64 (x1 + 1)) + 1)) + 1)) + 1)) + 1)) (wrap64 (x5 + 1))))))) else (none)) else (some (x1, x0))
def laws_markImportS.f (k : Nat) (l0 : List (S95)) (a1 : Int) : Option (Int × (List (S95))) := laws_markImportS.l0 k l0 a1 0
theorem laws_markImportS.calls (k : Nat) (P0_ : Nat → Prop) (u9000_ : Value) (l0 : List (S95)) (a1 : Int) (r1 : Int) (r2 : List (S95)) (w0 w : World) (hB : Below w0.heap.size w0 w) (ho0 : Kd.R k95 95 w w0.heap.size P0_ u9000_ l0) (h : laws_markImportS.f k l0 a1 = some (r1, r2)) :
  Calls Try.prog 56 #[u9000_, .int .i64 a1] w fun e w' => e = .returned (.int .i64 r1) ∧ Kd.R k95 95 w' w0.heap.size (fun k_ => (P0_ k_ ∨ w.heap.size ≤ k_)) u9000_ r2 ∧ Below w0.heap.size w0 w' ∧ Kept w w' (fun k_ => P0_ k_) := by
 have HO0 := aM (show Kd.R k95 95 w w0.heap.size (fun k_ => (P0_ k_ ∨ w.heap.size ≤ k_)) u9000_ l0 from Kd.R_mono ho0 (fun k_ hk => (.inl hk)))
 have HK := aM (Kept.refl w (fun k_ => P0_ k_))
 have HW0 := aM hB.size
 have HB := aM hB
 clear hB
 have H : (laws_markImportS.l0 k l0 a1 0) = some (r1, r2) := h
 clear h
 have H' := aM H
 clear H
 go_enter Try.func56, Try.ntmps56
 go_wp2
 go_loopg [1, 5] k (fun kq v1 v5 w' => ∃ (x0_1 : List (S95)) (x1_1 : Int) (x5_1 : Int), v1 = .int .i64 x1_1 ∧ v5 = .int .i64 x5_1 ∧ Aside0 (laws_markImportS.l0 kq x0_1 x1_1 x5_1 = some (r1, r2)) ∧ Aside0 (kq ≤ k) ∧ Aside0 (Kd.R k95 95 w' w0.heap.size (fun k_ => (P0_ k_ ∨ w.heap.size ≤ k_)) u9000_ x0_1) ∧ Aside0 (Kept w w' (fun k_ => P0_ k_)) ∧ Aside0 (Below w0.heap.size w0 w'))
 case atStart => exact ⟨(l0), (a1), (0), (by rfl), (by rfl), H', ⟨Nat.le_refl _⟩, ⟨by exact HO0.out⟩, ⟨by repeat ((with_reducible exact HK.out))⟩, ⟨by repeat ((with_reducible exact HB.out))⟩⟩
 clear H'
 obtain ⟨x0_1, x1_1, x5_1, rfl, rfl, HA, HK1, HO_0, HK, HB⟩ := hrel
 cases gk with
 | zero => exact absurd HA.out (by simp [laws_markImportS.l0])
 | succ k1 =>
  have H := HA.out
  clear HA
  simp only [laws_markImportS.l0] at H
  by_cases c3 : x5_1 < (x0_1.length : Int)
  rotate_left
  ·rw [if_neg c3] at H
   have c3b0 : decide (x5_1 < (x0_1.length : Int)) = false := decide_eq_false c3
   clear c3
   simp only [Option.some.injEq, Prod.mk.injEq] at H
   obtain ⟨rfl, rfl⟩ := H
   obtain ⟨Ao21, co21, eo21⟩ := Kd.R_slice HO_0.out
   subst eo21
   go_wp2
   go_ret
   exact ⟨by rfl, by exact HO_0.out, by repeat ((with_reducible exact HB.out)), by repeat ((with_reducible exact HK.out))⟩
  rw [if_pos c3] at H
  have c3b0 : decide (x5_1 < (x0_1.length : Int)) = true := decide_eq_true c3
  clear c3
  by_cases c4 : 0 ≤ x5_1
  rotate_left
  ·rw [if_neg c4] at H
   exact absurd H (by simp)
  rw [if_pos c4] at H
  have c4b0 : decide (0 ≤ x5_1) = true := decide_eq_true c4
  clear c4
  obtain ⟨y216, hy216⟩ : ∃ y_ : List (S95), y_ = (x0_1.set (x5_1 : Int).toNat (⟨x1_1, (rd_T95 x0_1 x5_1).f1, (rd_T95 x0_1 x5_1).f2, (rd_T95 x0_1 x5_1).f3, (rd_T95 x0_1 x5_1).f4⟩ : S95)) := ⟨_, rfl⟩
  replace H : ((some (y216.set (x5_1 : Int).toNat (⟨(rd_T95 y216 x5_1).f0, wrap64 (x1_1 + 1), (rd_T95 y216 x5_1).f2, (rd_T95 y216 x5_1).f3, (rd_T95 y216 x5_1).f4⟩ : S95) : List (S95))).bind fun y217 => ((some (y217.set (x5_1 : Int).toNat (⟨(rd_T95 y217 x5_1).f0, (rd_T95 y217 x5_1).f1, wrap64 ((wrap64 (x1_1 + 1)) + 1), (rd_T95 y217 x5_1).f3, (rd_T95 y217 x5_1).f4⟩ : S95) : List (S95))).bind fun y218 => ((some (y218.set (x5_1 : Int).toNat (⟨(rd_T95 y218 x5_1).f0, (rd_T95 y218 x5_1).f1, (rd_T95 y218 x5_1).f2, wrap64 ((wrap64 ((wrap64 (x1_1 + 1)) + 1)) + 1), (rd_T95 y218 x5_1).f4⟩ : S95) : List (S95))).bind fun y219 => (laws_markImportS.l0 k1 (y219.set (x5_1 : Int).toNat (⟨(rd_T95 y219 x5_1).f0, (rd_T95 y219 x5_1).f1, (rd_T95 y219 x5_1).f2, (rd_T95 y219 x5_1).f3, wrap64 ((wrap64 ((wrap64 ((wrap64 (x1_1 + 1)) + 1)) + 1)) + 1)⟩ : S95)) (wrap64 ((wrap64 ((wrap64 ((wrap64 ((wrap64 (x1_1 + 1)) + 1)) + 1)) + 1)) + 1)) (wrap64 (x5_1 + 1)))))) = some (r1, r2) := by (have H2_ := (Option.bind_some _ _).symm.trans H; rw [hy216]; with_reducible exact H2_)
  have Ny216 := aM hy216
  clear hy216
  obtain ⟨y217, hy217⟩ : ∃ y_ : List (S95), y_ = (y216.set (x5_1 : Int).toNat (⟨(rd_T95 y216 x5_1).f0, wrap64 (x1_1 + 1), (rd_T95 y216 x5_1).f2, (rd_T95 y216 x5_1).f3, (rd_T95 y216 x5_1).f4⟩ : S95)) := ⟨_, rfl⟩
  replace H : ((some (y217.set (x5_1 : Int).toNat (⟨(rd_T95 y217 x5_1).f0, (rd_T95 y217 x5_1).f1, wrap64 ((wrap64 (x1_1 + 1)) + 1), (rd_T95 y217 x5_1).f3, (rd_T95 y217 x5_1).f4⟩ : S95) : List (S95))).bind fun y218 => ((some (y218.set (x5_1 : Int).toNat (⟨(rd_T95 y218 x5_1).f0, (rd_T95 y218 x5_1).f1, (rd_T95 y218 x5_1).f2, wrap64 ((wrap64 ((wrap64 (x1_1 + 1)) + 1)) + 1), (rd_T95 y218 x5_1).f4⟩ : S95) : List (S95))).bind fun y219 => (laws_markImportS.l0 k1 (y219.set (x5_1 : Int).toNat (⟨(rd_T95 y219 x5_1).f0, (rd_T95 y219 x5_1).f1, (rd_T95 y219 x5_1).f2, (rd_T95 y219 x5_1).f3, wrap64 ((wrap64 ((wrap64 ((wrap64 (x1_1 + 1)) + 1)) + 1)) + 1)⟩ : S95)) (wrap64 ((wrap64 ((wrap64 ((wrap64 ((wrap64 (x1_1 + 1)) + 1)) + 1)) + 1)) + 1)) (wrap64 (x5_1 + 1))))) = some (r1, r2) := by (have H2_ := (Option.bind_some _ _).symm.trans H; rw [hy217]; with_reducible exact H2_)
  have Ny217 := aM hy217
  clear hy217
  obtain ⟨y218, hy218⟩ : ∃ y_ : List (S95), y_ = (y217.set (x5_1 : Int).toNat (⟨(rd_T95 y217 x5_1).f0, (rd_T95 y217 x5_1).f1, wrap64 ((wrap64 (x1_1 + 1)) + 1), (rd_T95 y217 x5_1).f3, (rd_T95 y217 x5_1).f4⟩ : S95)) := ⟨_, rfl⟩
  replace H : ((some (y218.set (x5_1 : Int).toNat (⟨(rd_T95 y218 x5_1).f0, (rd_T95 y218 x5_1).f1, (rd_T95 y218 x5_1).f2, wrap64 ((wrap64 ((wrap64 (x1_1 + 1)) + 1)) + 1), (rd_T95 y218 x5_1).f4⟩ : S95) : List (S95))).bind fun y219 => (laws_markImportS.l0 k1 (y219.set (x5_1 : Int).toNat (⟨(rd_T95 y219 x5_1).f0, (rd_T95 y219 x5_1).f1, (rd_T95 y219 x5_1).f2, (rd_T95 y219 x5_1).f3, wrap64 ((wrap64 ((wrap64 ((wrap64 (x1_1 + 1)) + 1)) + 1)) + 1)⟩ : S95)) (wrap64 ((wrap64 ((wrap64 ((wrap64 ((wrap64 (x1_1 + 1)) + 1)) + 1)) + 1)) + 1)) (wrap64 (x5_1 + 1)))) = some (r1, r2) := by (have H2_ := (Option.bind_some _ _).symm.trans H; rw [hy218]; with_reducible exact H2_)
  have Ny218 := aM hy218
  clear hy218
  obtain ⟨y219, hy219⟩ : ∃ y_ : List (S95), y_ = (y218.set (x5_1 : Int).toNat (⟨(rd_T95 y218 x5_1).f0, (rd_T95 y218 x5_1).f1, (rd_T95 y218 x5_1).f2, wrap64 ((wrap64 ((wrap64 (x1_1 + 1)) + 1)) + 1), (rd_T95 y218 x5_1).f4⟩ : S95)) := ⟨_, rfl⟩
  replace H : (laws_markImportS.l0 k1 (y219.set (x5_1 : Int).toNat (⟨(rd_T95 y219 x5_1).f0, (rd_T95 y219 x5_1).f1, (rd_T95 y219 x5_1).f2, (rd_T95 y219 x5_1).f3, wrap64 ((wrap64 ((wrap64 ((wrap64 (x1_1 + 1)) + 1)) + 1)) + 1)⟩ : S95)) (wrap64 ((wrap64 ((wrap64 ((wrap64 ((wrap64 (x1_1 + 1)) + 1)) + 1)) + 1)) + 1)) (wrap64 (x5_1 + 1))) = some (r1, r2) := by (have H2_ := (Option.bind_some _ _).symm.trans H; rw [hy219]; with_reducible exact H2_)
  have Ny219 := aM hy219
  clear hy219
  obtain ⟨y220, hy220⟩ : ∃ y_ : List (S95), y_ = (y219.set (x5_1 : Int).toNat (⟨(rd_T95 y219 x5_1).f0, (rd_T95 y219 x5_1).f1, (rd_T95 y219 x5_1).f2, (rd_T95 y219 x5_1).f3, wrap64 ((wrap64 ((wrap64 ((wrap64 (x1_1 + 1)) + 1)) + 1)) + 1)⟩ : S95)) := ⟨_, rfl⟩
  replace H : (laws_markImportS.l0 k1 y220 (wrap64 ((wrap64 ((wrap64 ((wrap64 ((wrap64 (x1_1 + 1)) + 1)) + 1)) + 1)) + 1)) (wrap64 (x5_1 + 1))) = some (r1, r2) := by (rw [hy220]; with_reducible exact H)
  have Ny220 := aM hy220
  clear hy220
  have H' := aM H
  clear H
  obtain ⟨Ao10, co10, eo10⟩ := Kd.R_slice HO_0.out
  subst eo10
  have p5 : 0 ≤ (x5_1 : Int) := oD ‹_›
  have q5 : (x5_1 : Int) < ((x0_1.length : Int) : Int) := oD ‹_›
  obtain ⟨go5, co5, eo5, gb5, gl5, cl5, HG5⟩ := Kd.R_form HO_0.out (by omega)
  (cases eo5)
  have GB5 := aM gb5
  have GG5 := aM HG5
  clear gb5 gl5 HG5
  have HMgo5 := aM (show (P0_ go5 ∨ w.heap.size ≤ go5) from (HO_0.out.1 _ rfl))
  obtain ⟨ce5, hcl5, hM5, hcc5, hfr5⟩ := Kd.R_elem HO_0.out z95 (x5_1 : Int) p5 q5
  obtain rfl := k95_openM hM5
  have hx5_0 : wr.cell? ⟨go5, (x5_1 : Int).toNat * 5, none⟩ = some (.int .i64 ((rd_T95 x0_1 x5_1).f0)) := hcc5 0 _ rfl
  have hx5_1 : wr.cell? ⟨go5, (x5_1 : Int).toNat * 5 + 1, none⟩ = some (.int .i64 ((rd_T95 x0_1 x5_1).f1)) := hcc5 1 _ rfl
  have hx5_2 : wr.cell? ⟨go5, (x5_1 : Int).toNat * 5 + 2, none⟩ = some (.int .i64 ((rd_T95 x0_1 x5_1).f2)) := hcc5 2 _ rfl
  have hx5_3 : wr.cell? ⟨go5, (x5_1 : Int).toNat * 5 + 3, none⟩ = some (.int .i64 ((rd_T95 x0_1 x5_1).f3)) := hcc5 3 _ rfl
  have hx5_4 : wr.cell? ⟨go5, (x5_1 : Int).toNat * 5 + 4, none⟩ = some (.int .i64 ((rd_T95 x0_1 x5_1).f4)) := hcc5 4 _ rfl
  have hf5_0 : wr.frozen? ⟨go5, (x5_1 : Int).toNat * 5, none⟩ = false := hfr5 0
  have hf5_1 : wr.frozen? ⟨go5, (x5_1 : Int).toNat * 5 + 1, none⟩ = false := hfr5 1
  have hf5_2 : wr.frozen? ⟨go5, (x5_1 : Int).toNat * 5 + 2, none⟩ = false := hfr5 2
  have hf5_3 : wr.frozen? ⟨go5, (x5_1 : Int).toNat * 5 + 3, none⟩ = false := hfr5 3
  have hf5_4 : wr.frozen? ⟨go5, (x5_1 : Int).toNat * 5 + 4, none⟩ = false := hfr5 4
  clear hcl5 hcc5 hfr5; (try clear hM5)
  replace p5 := eq_true p5
  replace q5 := eq_true q5
  have HX11 := aM (show Kd.R k95 95 wr w0.heap.size (fun k_ => (P0_ k_ ∨ w.heap.size ≤ k_)) (.slice (some ⟨go5, 0, none⟩) x0_1.length co10) x0_1 from HO_0.out)
  obtain ⟨ce11, hcl11, hM11, hcc11, hfr11⟩ := Kd.R_elem HX11.out z95 (x5_1 : Int) (oD ‹_›) (by have h_ : (x5_1 : Int) < ((x0_1.length : Int) : Int) := oD ‹_›; exact h_)
  obtain rfl := k95_openM hM11
  have HP11 := Kd.R_seg HX11.out (x5_1 : Int) (oD ‹_›) (by have h_ : (x5_1 : Int) < ((x0_1.length : Int) : Int) := oD ‹_›; exact h_) (seg := [.int .i64 x1_1]) (j := 0) hcl11 hcc11 (show 1 ≤ 5 from by decide) (x' := (⟨x1_1, (rd_T95 x0_1 x5_1).f1, (rd_T95 x0_1 x5_1).f2, (rd_T95 x0_1 x5_1).f3, (rd_T95 x0_1 x5_1).f4⟩ : S95)) (k95_mkM _ _ _ (⟨x1_1, (rd_T95 x0_1 x5_1).f1, (rd_T95 x0_1 x5_1).f2, (rd_T95 x0_1 x5_1).f3, (rd_T95 x0_1 x5_1).f4⟩ : S95) ) (fun _ hk => hk)
  have hx11_0 := hcc11 0 _ rfl
  (try simp only [show (k95).sz = 5 from rfl, Nat.mul_one, Nat.add_zero] at hx11_0)
  have hf11_0 := hfr11 0
  (try simp only [show (k95).sz = 5 from rfl, Nat.mul_one, Nat.add_zero] at hf11_0)
  clear hcl11 hcc11 hfr11; (try clear hM11)
  go_wp2_with (first | ((with_reducible refine gate_store (t := 3) (p := 16) rfl ?_); refine store_event (t := 3) (p := 16) (v := ?vo_w12) (w1 := (wr.setCell ⟨go5, (x5_1 : Int).toNat * 5, none⟩ (.int .i64 x1_1))) ?hg ?ho ?hn ?hr ?_; (case ho => rfl); (case hg => rfl); (case hn => rfl); (case hr => (go_simp; done)); intro w12 hw; have hg : wr.grownBy w12 (some go5) := (by rw [hw]; exact HP11.2); have hp_ : Kd.R k95 95 w12 w0.heap.size (fun k_ => (P0_ k_ ∨ w.heap.size ≤ k_)) (.slice (some ⟨go5, 0, none⟩) x0_1.length co10) y216 := (by rw [hw, Ny216.out]; exact HP11.1); clear HP11; replace HB := aM ((by rw [hw]; exact below_set (HB.out) GB5.out : Below w0.heap.size w0 w12)); replace HK := aM (Kept.of_grown (S := (fun k_ => P0_ k_)) hg HK.out (fun k_ e_ => (HO_0.out.1 k_ e_))); replace HO_0 := aM (hp_); clear hg hw hp_; have p6 : 0 ≤ (x5_1 : Int) := oD ‹_›; have q6 : (x5_1 : Int) < ((x0_1.length : Int) : Int) := oD ‹_›; obtain ⟨ce6, hcl6, hM6, hcc6, hfr6⟩ := Kd.R_elem HO_0.out z95 (x5_1 : Int) p6 q6; obtain rfl := k95_openM hM6; have hx6_0 : w12.cell? ⟨go5, (x5_1 : Int).toNat * 5, none⟩ = some (.int .i64 ((rd_T95 y216 x5_1).f0)) := hcc6 0 _ rfl; have hx6_1 : w12.cell? ⟨go5, (x5_1 : Int).toNat * 5 + 1, none⟩ = some (.int .i64 ((rd_T95 y216 x5_1).f1)) := hcc6 1 _ rfl; have hx6_2 : w12.cell? ⟨go5, (x5_1 : Int).toNat * 5 + 2, none⟩ = some (.int .i64 ((rd_T95 y216 x5_1).f2)) := hcc6 2 _ rfl; have hx6_3 : w12.cell? ⟨go5, (x5_1 : Int).toNat * 5 + 3, none⟩ = some (.int .i64 ((rd_T95 y216 x5_1).f3)) := hcc6 3 _ rfl; have hx6_4 : w12.cell? ⟨go5, (x5_1 : Int).toNat * 5 + 4, none⟩ = some (.int .i64 ((rd_T95 y216 x5_1).f4)) := hcc6 4 _ rfl; have hf6_0 : w12.frozen? ⟨go5, (x5_1 : Int).toNat * 5, none⟩ = false := hfr6 0; have hf6_1 : w12.frozen? ⟨go5, (x5_1 : Int).toNat * 5 + 1, none⟩ = false := hfr6 1; have hf6_2 : w12.frozen? ⟨go5, (x5_1 : Int).toNat * 5 + 2, none⟩ = false := hfr6 2; have hf6_3 : w12.frozen? ⟨go5, (x5_1 : Int).toNat * 5 + 3, none⟩ = false := hfr6 3; have hf6_4 : w12.frozen? ⟨go5, (x5_1 : Int).toNat * 5 + 4, none⟩ = false := hfr6 4; clear hcl6 hcc6 hfr6; (try clear hM6); replace p6 := eq_true p6; replace q6 := eq_true q6; have HX13 := aM (show Kd.R k95 95 w12 w0.heap.size (fun k_ => (P0_ k_ ∨ w.heap.size ≤ k_)) (.slice (some ⟨go5, 0, none⟩) x0_1.length co10) y216 from HO_0.out); obtain ⟨ce13, hcl13, hM13, hcc13, hfr13⟩ := Kd.R_elem HX13.out z95 (x5_1 : Int) (oD ‹_›) (by have h_ : (x5_1 : Int) < ((x0_1.length : Int) : Int) := oD ‹_›; exact h_); obtain rfl := k95_openM hM13; have HP13 := Kd.R_seg HX13.out (x5_1 : Int) (oD ‹_›) (by have h_ : (x5_1 : Int) < ((x0_1.length : Int) : Int) := oD ‹_›; exact h_) (seg := [.int .i64 (wrap64 (x1_1 + 1))]) (j := 1) hcl13 hcc13 (show 2 ≤ 5 from by decide) (x' := (⟨(rd_T95 y216 x5_1).f0, wrap64 (x1_1 + 1), (rd_T95 y216 x5_1).f2, (rd_T95 y216 x5_1).f3, (rd_T95 y216 x5_1).f4⟩ : S95)) (k95_mkM _ _ _ (⟨(rd_T95 y216 x5_1).f0, wrap64 (x1_1 + 1), (rd_T95 y216 x5_1).f2, (rd_T95 y216 x5_1).f3, (rd_T95 y216 x5_1).f4⟩ : S95) ) (fun _ hk => hk); have hx13_1 := hcc13 1 _ rfl; (try simp only [show (k95).sz = 5 from rfl, Nat.mul_one, Nat.add_zero] at hx13_1); have hf13_1 := hfr13 1; (try simp only [show (k95).sz = 5 from rfl, Nat.mul_one, Nat.add_zero] at hf13_1); clear hcl13 hcc13 hfr13; (try clear hM13)) | ((with_reducible refine gate_store (t := 3) (p := 23) rfl ?_); refine store_event (t := 3) (p := 23) (v := ?vo_w14) (w1 := (w12.setCell ⟨go5, (x5_1 : Int).toNat * 5 + 1, none⟩ (.int .i64 (wrap64 (x1_1 + 1))))) ?hg ?ho ?hn ?hr ?_; (case ho => rfl); (case hg => rfl); (case hn => rfl); (case hr => (go_simp; done)); intro w14 hw; have hg : w12.grownBy w14 (some go5) := (by rw [hw]; exact HP13.2); have hp_ : Kd.R k95 95 w14 w0.heap.size (fun k_ => (P0_ k_ ∨ w.heap.size ≤ k_)) (.slice (some ⟨go5, 0, none⟩) x0_1.length co10) y217 := (by rw [hw, Ny217.out]; exact HP13.1); clear HP13; replace HB := aM ((by rw [hw]; exact below_set (HB.out) GB5.out : Below w0.heap.size w0 w14)); replace HK := aM (Kept.of_grown (S := (fun k_ => P0_ k_)) hg HK.out (fun k_ e_ => (HO_0.out.1 k_ e_))); replace HO_0 := aM (hp_); clear hg hw hp_; have p7 : 0 ≤ (x5_1 : Int) := oD ‹_›; have q7 : (x5_1 : Int) < ((x0_1.length : Int) : Int) := oD ‹_›; obtain ⟨ce7, hcl7, hM7, hcc7, hfr7⟩ := Kd.R_elem HO_0.out z95 (x5_1 : Int) p7 q7; obtain rfl := k95_openM hM7; have hx7_0 : w14.cell? ⟨go5, (x5_1 : Int).toNat * 5, none⟩ = some (.int .i64 ((rd_T95 y217 x5_1).f0)) := hcc7 0 _ rfl; have hx7_1 : w14.cell? ⟨go5, (x5_1 : Int).toNat * 5 + 1, none⟩ = some (.int .i64 ((rd_T95 y217 x5_1).f1)) := hcc7 1 _ rfl; have hx7_2 : w14.cell? ⟨go5, (x5_1 : Int).toNat * 5 + 2, none⟩ = some (.int .i64 ((rd_T95 y217 x5_1).f2)) := hcc7 2 _ rfl; have hx7_3 : w14.cell? ⟨go5, (x5_1 : Int).toNat * 5 + 3, none⟩ = some (.int .i64 ((rd_T95 y217 x5_1).f3)) := hcc7 3 _ rfl; have hx7_4 : w14.cell? ⟨go5, (x5_1 : Int).toNat * 5 + 4, none⟩ = some (.int .i64 ((rd_T95 y217 x5_1).f4)) := hcc7 4 _ rfl; have hf7_0 : w14.frozen? ⟨go5, (x5_1 : Int).toNat * 5, none⟩ = false := hfr7 0; have hf7_1 : w14.frozen? ⟨go5, (x5_1 : Int).toNat * 5 + 1, none⟩ = false := hfr7 1; have hf7_2 : w14.frozen? ⟨go5, (x5_1 : Int).toNat * 5 + 2, none⟩ = false := hfr7 2; have hf7_3 : w14.frozen? ⟨go5, (x5_1 : Int).toNat * 5 + 3, none⟩ = false := hfr7 3; have hf7_4 : w14.frozen? ⟨go5, (x5_1 : Int).toNat * 5 + 4, none⟩ = false := hfr7 4; clear hcl7 hcc7 hfr7; (try clear hM7); replace p7 := eq_true p7; replace q7 := eq_true q7; have HX15 := aM (show Kd.R k95 95 w14 w0.heap.size (fun k_ => (P0_ k_ ∨ w.heap.size ≤ k_)) (.slice (some ⟨go5, 0, none⟩) x0_1.length co10) y217 from HO_0.out); obtain ⟨ce15, hcl15, hM15, hcc15, hfr15⟩ := Kd.R_elem HX15.out z95 (x5_1 : Int) (oD ‹_›) (by have h_ : (x5_1 : Int) < ((x0_1.length : Int) : Int) := oD ‹_›; exact h_); obtain rfl := k95_openM hM15; have HP15 := Kd.R_seg HX15.out (x5_1 : Int) (oD ‹_›) (by have h_ : (x5_1 : Int) < ((x0_1.length : Int) : Int) := oD ‹_›; exact h_) (seg := [.int .i64 (wrap64 ((wrap64 (x1_1 + 1)) + 1))]) (j := 2) hcl15 hcc15 (show 3 ≤ 5 from by decide) (x' := (⟨(rd_T95 y217 x5_1).f0, (rd_T95 y217 x5_1).f1, wrap64 ((wrap64 (x1_1 + 1)) + 1), (rd_T95 y217 x5_1).f3, (rd_T95 y217 x5_1).f4⟩ : S95)) (k95_mkM _ _ _ (⟨(rd_T95 y217 x5_1).f0, (rd_T95 y217 x5_1).f1, wrap64 ((wrap64 (x1_1 + 1)) + 1), (rd_T95 y217 x5_1).f3, (rd_T95 y217 x5_1).f4⟩ : S95) ) (fun _ hk => hk); have hx15_2 := hcc15 2 _ rfl; (try simp only [show (k95).sz = 5 from rfl, Nat.mul_one, Nat.add_zero] at hx15_2); have hf15_2 := hfr15 2; (try simp only [show (k95).sz = 5 from rfl, Nat.mul_one, Nat.add_zero] at hf15_2); clear hcl15 hcc15 hfr15; (try clear hM15)) | ((with_reducible refine gate_store (t := 3) (p := 30) rfl ?_); refine store_event (t := 3) (p := 30) (v := ?vo_w16) (w1 := (w14.setCell ⟨go5, (x5_1 : Int).toNat * 5 + 2, none⟩ (.int .i64 (wrap64 ((wrap64 (x1_1 + 1)) + 1))))) ?hg ?ho ?hn ?hr ?_; (case ho => rfl); (case hg => rfl); (case hn => rfl); (case hr => (go_simp; done)); intro w16 hw; have hg : w14.grownBy w16 (some go5) := (by rw [hw]; exact HP15.2); have hp_ : Kd.R k95 95 w16 w0.heap.size (fun k_ => (P0_ k_ ∨ w.heap.size ≤ k_)) (.slice (some ⟨go5, 0, none⟩) x0_1.length co10) y218 := (by rw [hw, Ny218.out]; exact HP15.1); clear HP15; replace HB := aM ((by rw [hw]; exact below_set (HB.out) GB5.out : Below w0.heap.size w0 w16)); replace HK := aM (Kept.of_grown (S := (fun k_ => P0_ k_)) hg HK.out (fun k_ e_ => (HO_0.out.1 k_ e_))); replace HO_0 := aM (hp_); clear hg hw hp_; have p8 : 0 ≤ (x5_1 : Int) := oD ‹_›; have q8 : (x5_1 : Int) < ((x0_1.length : Int) : Int) := oD ‹_›; obtain ⟨ce8, hcl8, hM8, hcc8, hfr8⟩ := Kd.R_elem HO_0.out z95 (x5_1 : Int) p8 q8; obtain rfl := k95_openM hM8; have hx8_0 : w16.cell? ⟨go5, (x5_1 : Int).toNat * 5, none⟩ = some (.int .i64 ((rd_T95 y218 x5_1).f0)) := hcc8 0 _ rfl; have hx8_1 : w16.cell? ⟨go5, (x5_1 : Int).toNat * 5 + 1, none⟩ = some (.int .i64 ((rd_T95 y218 x5_1).f1)) := hcc8 1 _ rfl; have hx8_2 : w16.cell? ⟨go5, (x5_1 : Int).toNat * 5 + 2, none⟩ = some (.int .i64 ((rd_T95 y218 x5_1).f2)) := hcc8 2 _ rfl; have hx8_3 : w16.cell? ⟨go5, (x5_1 : Int).toNat * 5 + 3, none⟩ = some (.int .i64 ((rd_T95 y218 x5_1).f3)) := hcc8 3 _ rfl; have hx8_4 : w16.cell? ⟨go5, (x5_1 : Int).toNat * 5 + 4, none⟩ = some (.int .i64 ((rd_T95 y218 x5_1).f4)) := hcc8 4 _ rfl; have hf8_0 : w16.frozen? ⟨go5, (x5_1 : Int).toNat * 5, none⟩ = false := hfr8 0; have hf8_1 : w16.frozen? ⟨go5, (x5_1 : Int).toNat * 5 + 1, none⟩ = false := hfr8 1; have hf8_2 : w16.frozen? ⟨go5, (x5_1 : Int).toNat * 5 + 2, none⟩ = false := hfr8 2; have hf8_3 : w16.frozen? ⟨go5, (x5_1 : Int).toNat * 5 + 3, none⟩ = false := hfr8 3; have hf8_4 : w16.frozen? ⟨go5, (x5_1 : Int).toNat * 5 + 4, none⟩ = false := hfr8 4; clear hcl8 hcc8 hfr8; (try clear hM8); replace p8 := eq_true p8; replace q8 := eq_true q8; have HX17 := aM (show Kd.R k95 95 w16 w0.heap.size (fun k_ => (P0_ k_ ∨ w.heap.size ≤ k_)) (.slice (some ⟨go5, 0, none⟩) x0_1.length co10) y218 from HO_0.out); obtain ⟨ce17, hcl17, hM17, hcc17, hfr17⟩ := Kd.R_elem HX17.out z95 (x5_1 : Int) (oD ‹_›) (by have h_ : (x5_1 : Int) < ((x0_1.length : Int) : Int) := oD ‹_›; exact h_); obtain rfl := k95_openM hM17; have HP17 := Kd.R_seg HX17.out (x5_1 : Int) (oD ‹_›) (by have h_ : (x5_1 : Int) < ((x0_1.length : Int) : Int) := oD ‹_›; exact h_) (seg := [.int .i64 (wrap64 ((wrap64 ((wrap64 (x1_1 + 1)) + 1)) + 1))]) (j := 3) hcl17 hcc17 (show 4 ≤ 5 from by decide) (x' := (⟨(rd_T95 y218 x5_1).f0, (rd_T95 y218 x5_1).f1, (rd_T95 y218 x5_1).f2, wrap64 ((wrap64 ((wrap64 (x1_1 + 1)) + 1)) + 1), (rd_T95 y218 x5_1).f4⟩ : S95)) (k95_mkM _ _ _ (⟨(rd_T95 y218 x5_1).f0, (rd_T95 y218 x5_1).f1, (rd_T95 y218 x5_1).f2, wrap64 ((wrap64 ((wrap64 (x1_1 + 1)) + 1)) + 1), (rd_T95 y218 x5_1).f4⟩ : S95) ) (fun _ hk => hk); have hx17_3 := hcc17 3 _ rfl; (try simp only [show (k95).sz = 5 from rfl, Nat.mul_one, Nat.add_zero] at hx17_3); have hf17_3 := hfr17 3; (try simp only [show (k95).sz = 5 from rfl, Nat.mul_one, Nat.add_zero] at hf17_3); clear hcl17 hcc17 hfr17; (try clear hM17)) | ((with_reducible refine gate_store (t := 3) (p := 37) rfl ?_); refine store_event (t := 3) (p := 37) (v := ?vo_w18) (w1 := (w16.setCell ⟨go5, (x5_1 : Int).toNat * 5 + 3, none⟩ (.int .i64 (wrap64 ((wrap64 ((wrap64 (x1_1 + 1)) + 1)) + 1))))) ?hg ?ho ?hn ?hr ?_; (case ho => rfl); (case hg => rfl); (case hn => rfl); (case hr => (go_simp; done)); intro w18 hw; have hg : w16.grownBy w18 (some go5) := (by rw [hw]; exact HP17.2); have hp_ : Kd.R k95 95 w18 w0.heap.size (fun k_ => (P0_ k_ ∨ w.heap.size ≤ k_)) (.slice (some ⟨go5, 0, none⟩) x0_1.length co10) y219 := (by rw [hw, Ny219.out]; exact HP17.1); clear HP17; replace HB := aM ((by rw [hw]; exact below_set (HB.out) GB5.out : Below w0.heap.size w0 w18)); replace HK := aM (Kept.of_grown (S := (fun k_ => P0_ k_)) hg HK.out (fun k_ e_ => (HO_0.out.1 k_ e_))); replace HO_0 := aM (hp_); clear hg hw hp_; have p9 : 0 ≤ (x5_1 : Int) := oD ‹_›; have q9 : (x5_1 : Int) < ((x0_1.length : Int) : Int) := oD ‹_›; obtain ⟨ce9, hcl9, hM9, hcc9, hfr9⟩ := Kd.R_elem HO_0.out z95 (x5_1 : Int) p9 q9; obtain rfl := k95_openM hM9; have hx9_0 : w18.cell? ⟨go5, (x5_1 : Int).toNat * 5, none⟩ = some (.int .i64 ((rd_T95 y219 x5_1).f0)) := hcc9 0 _ rfl; have hx9_1 : w18.cell? ⟨go5, (x5_1 : Int).toNat * 5 + 1, none⟩ = some (.int .i64 ((rd_T95 y219 x5_1).f1)) := hcc9 1 _ rfl; have hx9_2 : w18.cell? ⟨go5, (x5_1 : Int).toNat * 5 + 2, none⟩ = some (.int .i64 ((rd_T95 y219 x5_1).f2)) := hcc9 2 _ rfl; have hx9_3 : w18.cell? ⟨go5, (x5_1 : Int).toNat * 5 + 3, none⟩ = some (.int .i64 ((rd_T95 y219 x5_1).f3)) := hcc9 3 _ rfl; have hx9_4 : w18.cell? ⟨go5, (x5_1 : Int).toNat * 5 + 4, none⟩ = some (.int .i64 ((rd_T95 y219 x5_1).f4)) := hcc9 4 _ rfl; have hf9_0 : w18.frozen? ⟨go5, (x5_1 : Int).toNat * 5, none⟩ = false := hfr9 0; have hf9_1 : w18.frozen? ⟨go5, (x5_1 : Int).toNat * 5 + 1, none⟩ = false := hfr9 1; have hf9_2 : w18.frozen? ⟨go5, (x5_1 : Int).toNat * 5 + 2, none⟩ = false := hfr9 2; have hf9_3 : w18.frozen? ⟨go5, (x5_1 : Int).toNat * 5 + 3, none⟩ = false := hfr9 3; have hf9_4 : w18.frozen? ⟨go5, (x5_1 : Int).toNat * 5 + 4, none⟩ = false := hfr9 4; clear hcl9 hcc9 hfr9; (try clear hM9); replace p9 := eq_true p9; replace q9 := eq_true q9; have HX19 := aM (show Kd.R k95 95 w18 w0.heap.size (fun k_ => (P0_ k_ ∨ w.heap.size ≤ k_)) (.slice (some ⟨go5, 0, none⟩) x0_1.length co10) y219 from HO_0.out); obtain ⟨ce19, hcl19, hM19, hcc19, hfr19⟩ := Kd.R_elem HX19.out z95 (x5_1 : Int) (oD ‹_›) (by have h_ : (x5_1 : Int) < ((x0_1.length : Int) : Int) := oD ‹_›; exact h_); obtain rfl := k95_openM hM19; have HP19 := Kd.R_seg HX19.out (x5_1 : Int) (oD ‹_›) (by have h_ : (x5_1 : Int) < ((x0_1.length : Int) : Int) := oD ‹_›; exact h_) (seg := [.int .i64 (wrap64 ((wrap64 ((wrap64 ((wrap64 (x1_1 + 1)) + 1)) + 1)) + 1))]) (j := 4) hcl19 hcc19 (show 5 ≤ 5 from by decide) (x' := (⟨(rd_T95 y219 x5_1).f0, (rd_T95 y219 x5_1).f1, (rd_T95 y219 x5_1).f2, (rd_T95 y219 x5_1).f3, wrap64 ((wrap64 ((wrap64 ((wrap64 (x1_1 + 1)) + 1)) + 1)) + 1)⟩ : S95)) (k95_mkM _ _ _ (⟨(rd_T95 y219 x5_1).f0, (rd_T95 y219 x5_1).f1, (rd_T95 y219 x5_1).f2, (rd_T95 y219 x5_1).f3, wrap64 ((wrap64 ((wrap64 ((wrap64 (x1_1 + 1)) + 1)) + 1)) + 1)⟩ : S95) ) (fun _ hk => hk); have hx19_4 := hcc19 4 _ rfl; (try simp only [show (k95).sz = 5 from rfl, Nat.mul_one, Nat.add_zero] at hx19_4); have hf19_4 := hfr19 4; (try simp only [show (k95).sz = 5 from rfl, Nat.mul_one, Nat.add_zero] at hf19_4); clear hcl19 hcc19 hfr19; (try clear hM19)) | ((with_reducible refine gate_store (t := 3) (p := 44) rfl ?_); refine store_event (t := 3) (p := 44) (v := ?vo_w20) (w1 := (w18.setCell ⟨go5, (x5_1 : Int).toNat * 5 + 4, none⟩ (.int .i64 (wrap64 ((wrap64 ((wrap64 ((wrap64 (x1_1 + 1)) + 1)) + 1)) + 1))))) ?hg ?ho ?hn ?hr ?_; (case ho => rfl); (case hg => rfl); (case hn => rfl); (case hr => (go_simp; done)); intro w20 hw; have hg : w18.grownBy w20 (some go5) := (by rw [hw]; exact HP19.2); have hp_ : Kd.R k95 95 w20 w0.heap.size (fun k_ => (P0_ k_ ∨ w.heap.size ≤ k_)) (.slice (some ⟨go5, 0, none⟩) x0_1.length co10) y220 := (by rw [hw, Ny220.out]; exact HP19.1); clear HP19; replace HB := aM ((by rw [hw]; exact below_set (HB.out) GB5.out : Below w0.heap.size w0 w20)); replace HK := aM (Kept.of_grown (S := (fun k_ => P0_ k_)) hg HK.out (fun k_ e_ => (HO_0.out.1 k_ e_))); replace HO_0 := aM (hp_); clear hg hw hp_))
  go_roundg k1
  case measure => have := HK1.out; omega
  case rel => exact ⟨(y220), (wrap64 ((wrap64 ((wrap64 ((wrap64 ((wrap64 (x1_1 + 1)) + 1)) + 1)) + 1)) + 1)), (wrap64 (x5_1 + 1)), (by rfl), (by rfl), H', ⟨by have := HK1.out; omega⟩, ⟨by exact HO_0.out⟩, ⟨by repeat ((with_reducible exact HK.out))⟩, ⟨by repeat ((with_reducible exact HB.out))⟩⟩
end Go.Proofs.Ytgibacfgjmdjdaa.PFnExactIsStable
end
section
namespace Go.Proofs.Ytgibacfgjmdjdaa.PFnExactIsStable
open Go.RowKit Go.Proofs.YtgibacfgjmdjdaaW.PrintWords Go.Proofs.YtgibacfgjmdjdaaW.PrintLast Go.Proofs.YtgibacfgjmdjdaaW.PrintMore
attribute [local go_sem] max2_int min2_int max_two min_two max_three min_three max_four min_four   -- for this text's walks alone
set_option linter.unusedVariables false
set_option maxHeartbeats 8000000
set_option maxRecDepth 100000
set_option linter.unusedSimpArgs false
def laws_markFilterS.l0 : Nat → List (S97) → Int → Int → Option (Int × (List (S97)))
 | 0, _, _, _ => none
 | k + 1, x0, x1, x5 => if x5 < (x0.length : Int) then (if 0 ≤ x5 then ((some (x0.set (x5 : Int).toNat (⟨x1, (rd_T97 x0 x5).f1, (rd_T97 x0 x5).f2, (rd_T97 x0 x5).f3⟩ : S97) : List (S97))).bind fun y221 => ((some (y221.set (x5 : Int).toNat (⟨(rd_T97 y221 x5).f0, wrap64 (x1 + 1), (rd_T97 y221 x5).f2, (rd_T97 y221 x5).f3⟩ : S97) : List (S97))).bind fun y222 => ((some (y222.set (x5 : Int).toNat (⟨(rd_T97 y222 x5).f0, (rd_T97 y222 x5).f1, wrap64 ((wrap64 (x1 + 1)) + 1), (rd_T97 y222 x5).f3⟩ : S97) : List (S97))).bind fun y223 => (laws_markFilterS.l0 k (y223.set (x5 : Int).toNat (⟨(rd_T97 y223 x5).f0, (rd_T97 y223 x5).f1, (rd_T97 y223 x5).f2, wrap64 ((wrap64 ((wrap64 (x1 + 1)) + 1)) + 1)⟩ : S97)) (wrap64 ((wrap64 ((wrap64 ((wrap64 (x1 + 1)) + 1)) + 1)) + 1)) (wrap64 (x5 + 1)))))) else (none)) else (some (x1, x0))
def laws_markFilterS.f (k : Nat) (l0 : List (S97)) (a1 : Int) : Option (Int × (List (S97))) := laws_markFilterS.l0 k l0 a1 0
theorem laws_markFilterS.calls (k : Nat) (P0_ : Nat → Prop) (u9000_ : Value) (l0 : List (S97)) (a1 : Int) (r1 : Int) (r2 : List (S97)) (w0 w : World) (hB : Below w0.heap.size w0 w) (ho0 : Kd.R k97 97 w w0.heap.size P0_ u9000_ l0) (h : laws_markFilterS.f k l0 a1 = some (r1, r2)) :
  Calls Try.prog 57 #[u9000_, .int .i64 a1] w fun e w' => e = .returned (.int .i64 r1) ∧ Kd.R k97 97 w' w0.heap.size (fun k_ => (P0_ k_ ∨ w.heap.size ≤ k_)) u9000_ r2 ∧ Below w0.heap.size w0 w' ∧ Kept w w' (fun k_ => P0_ k_) := by
 have HO0 := aM (show Kd.R k97 97 w w0.heap.size (fun k_ => (P0_ k_ ∨ w.heap.size ≤ k_)) u9000_ l0 from Kd.R_mono ho0 (fun k_ hk => (.inl hk)))
 have HK := aM (Kept.refl w (fun k_ => P0_ k_))
 have HW0 := aM hB.size
 have HB := aM hB
 clear hB
 have H : (laws_markFilterS.l0 k l0 a1 0) = some (r1, r2) := h
 clear h
 have H' := aM H
 clear H
 go_enter Try.func57, Try.ntmps57
 go_wp2
 go_loopg [1, 5] k (fun kq v1 v5 w' => ∃ (x0_1 : List (S97)) (x1_1 : Int) (x5_1 : Int), v1 = .int .i64 x1_1 ∧ v5 = .int .i64 x5_1 ∧ Aside0 (laws_markFilterS.l0 kq x0_1 x1_1 x5_1 = some (r1, r2)) ∧ Aside0 (kq ≤ k) ∧ Aside0 (Kd.R k97 97 w' w0.heap.size (fun k_ => (P0_ k_ ∨ w.heap.size ≤ k_)) u9000_ x0_1) ∧ Aside0 (Kept w w' (fun k_ => P0_ k_)) ∧ Aside0 (Below w0.heap.size w0 w'))
 case atStart => exact ⟨(l0), (a1), (0), (by rfl), (by rfl), H', ⟨Nat.le_refl _⟩, ⟨by exact HO0.out⟩, ⟨by repeat ((with_reducible exact HK.out))⟩, ⟨by repeat ((with_reducible exact HB.out))⟩⟩
 clear H'
 obtain ⟨x0_1, x1_1, x5_1, rfl, rfl, HA, HK1, HO_0, HK, HB⟩ := hrel
 cases gk with
 | zero => exact absurd HA.out (by simp [laws_markFilterS.l0])
 | succ k1 =>
  have H := HA.out
  clear HA
  simp only [laws_markFilterS.l0] at H
  by_cases c3 : x5_1 < (x0_1.length : Int)
  rotate_left
  ·rw [if_neg c3] at H
   have c3b0 : decide (x5_1 < (x0_1.length : Int)) = false := decide_eq_false c3
   clear c3
   simp only [Option.some.injEq, Prod.mk.injEq] at H
   obtain ⟨rfl, rfl⟩ := H
   obtain ⟨Ao18, co18, eo18⟩ := Kd.R_slice HO_0.out
   subst eo18
   go_wp2
   go_ret
   exact ⟨by rfl, by exact HO_0.out, by repeat ((with_reducible exact HB.out)), by repeat ((with_reducible exact HK.out))⟩
  rw [if_pos c3] at H
  have c3b0 : decide (x5_1 < (x0_1.length : Int)) = true := decide_eq_true c3
  clear c3
  by_cases c4 : 0 ≤ x5_1
  rotate_left
  ·rw [if_neg c4] at H
   exact absurd H (by simp)
  rw [if_pos c4] at H
  have c4b0 : decide (0 ≤ x5_1) = true := decide_eq_true c4
  clear c4
  obtain ⟨y221, hy221⟩ : ∃ y_ : List (S97), y_ = (x0_1.set (x5_1 : Int).toNat (⟨x1_1, (rd_T97 x0_1 x5_1).f1, (rd_T97 x0_1 x5_1).f2, (rd_T97 x0_1 x5_1).f3⟩ : S97)) := ⟨_, rfl⟩
  replace H : ((some (y221.set (x5_1 : Int).toNat (⟨(rd_T97 y221 x5_1).f0, wrap64 (x1_1 + 1), (rd_T97 y221 x5_1).f2, (rd_T97 y221 x5_1).f3⟩ : S97) : List (S97))).bind fun y222 => ((some (y222.set (x5_1 : Int).toNat (⟨(rd_T97 y222 x5_1).f0, (rd_T97 y222 x5_1).f1, wrap64 ((wrap64 (x1_1 + 1)) + 1), (rd_T97 y222 x5_1).f3⟩ : S97) : List (S97))).bind fun y223 => (laws_markFilterS.l0 k1 (y223.set (x5_1 : Int).toNat (⟨(rd_T97 y223 x5_1).f0, (rd_T97 y223 x5_1).f1, (rd_T97 y223 x5_1).f2, wrap64 ((wrap64 ((wrap64 (x1_1 + 1)) + 1)) + 1)⟩ : S97)) (wrap64 ((wrap64 ((wrap64 ((wrap64 (x1_1 + 1)) + 1)) + 1)) + 1)) (wrap64 (x5_1 + 1))))) = some (r1, r2) := by (have H2_ := (Option.bind_some _ _).symm.trans H; rw [hy221]; with_reducible exact H2_)
  have Ny221 := aM hy221
  clear hy221
  obtain ⟨y222, hy222⟩ : ∃ y_ : List (S97), y_ = (y221.set (x5_1 : Int).toNat (⟨(rd_T97 y221 x5_1).f0, wrap64 (x1_1 + 1), (rd_T97 y221 x5_1).f2, (rd_T97 y221 x5_1).f3⟩ : S97)) := ⟨_, rfl⟩
  replace H : ((some (y222.set (x5_1 : Int).toNat (⟨(rd_T97 y222 x5_1).f0, (rd_T97 y222 x5_1).f1, wrap64 ((wrap64 (x1_1 + 1)) + 1), (rd_T97 y222 x5_1).f3⟩ : S97) : List (S97))).bind fun y223 => (laws_markFilterS.l0 k1 (y223.set (x5_1 : Int).toNat (⟨(rd_T97 y223 x5_1).f0, (rd_T97 y223 x5_1).f1, (rd_T97 y223 x5_1).f2, wrap64 ((wrap64 ((wrap64 (x1_1 + 1)) + 1)) + 1)⟩ : S97)) (wrap64 ((wrap64 ((wrap64 ((wrap64 (x1_1 + 1)) + 1)) + 1)) + 1)) (wrap64 (x5_1 + 1)))) = some (r1, r2) := by (have H2_ := (Option.bind_some _ _).symm.trans H; rw [hy222]; with_reducible exact H2_)
  have Ny222 := aM hy222
  clear hy222
  obtain ⟨y223, hy223⟩ : ∃ y_ : List (S97), y_ = (y222.set (x5_1 : Int).toNat (⟨(rd_T97 y222 x5_1).f0, (rd_T97 y222 x5_1).f1, wrap64 ((wrap64 (x1_1 + 1)) + 1), (rd_T97 y222 x5_1).f3⟩ : S97)) := ⟨_, rfl⟩
  replace H : (laws_markFilterS.l0 k1 (y223.set (x5_1 : Int).toNat (⟨(rd_T97 y223 x5_1).f0, (rd_T97 y223 x5_1).f1, (rd_T97 y223 x5_1).f2, wrap64 ((wrap64 ((wrap64 (x1_1 + 1)) + 1)) + 1)⟩ : S97)) (wrap64 ((wrap64 ((wrap64 ((wrap64 (x1_1 + 1)) + 1)) + 1)) + 1)) (wrap64 (x5_1 + 1))) = some (r1, r2) := by (have H2_ := (Option.bind_some _ _).symm.trans H; rw [hy223]; with_reducible exact H2_)
  have Ny223 := aM hy223
  clear hy223
  obtain ⟨y224, hy224⟩ : ∃ y_ : List (S97), y_ = (y223.set (x5_1 : Int).toNat (⟨(rd_T97 y223 x5_1).f0, (rd_T97 y223 x5_1).f1, (rd_T97 y223 x5_1).f2, wrap64 ((wrap64 ((wrap64 (x1_1 + 1)) + 1)) + 1)⟩ : S97)) := ⟨_, rfl⟩
  replace H : (laws_markFilterS.l0 k1 y224 (wrap64 ((wrap64 ((wrap64 ((wrap64 (x1_1 + 1)) + 1)) + 1)) + 1)) (wrap64 (x5_1 + 1))) = some (r1, r2) := by (rw [hy224]; with_reducible exact H)
  have Ny224 := aM hy224
  clear hy224
  have H' := aM H
  clear H
  obtain ⟨Ao9, co9, eo9⟩ := Kd.R_slice HO_0.out
  subst eo9
  have p5 : 0 ≤ (x5_1 : Int) := oD ‹_›
  have q5 : (x5_1 : Int) < ((x0_1.length : Int) : Int) := oD ‹_›
  obtain ⟨go5, co5, eo5, gb5, gl5, cl5, HG5⟩ := Kd.R_form HO_0.out (by omega)
  (cases eo5)
  have GB5 := aM gb5
  have GG5 := aM HG5
  clear gb5 gl5 HG5
  have HMgo5 := aM (show (P0_ go5 ∨ w.heap.size ≤ go5) from (HO_0.out.1 _ rfl))
  obtain ⟨ce5, hcl5, hM5, hcc5, hfr5⟩ := Kd.R_elem HO_0.out z97 (x5_1 : Int) p5 q5
  obtain rfl := k97_openM hM5
  have hx5_0 : wr.cell? ⟨go5, (x5_1 : Int).toNat * 4, none⟩ = some (.int .i64 ((rd_T97 x0_1 x5_1).f0)) := hcc5 0 _ rfl
  have hx5_1 : wr.cell? ⟨go5, (x5_1 : Int).toNat * 4 + 1, none⟩ = some (.int .i64 ((rd_T97 x0_1 x5_1).f1)) := hcc5 1 _ rfl
  have hx5_2 : wr.cell? ⟨go5, (x5_1 : Int).toNat * 4 + 2, none⟩ = some (.int .i64 ((rd_T97 x0_1 x5_1).f2)) := hcc5 2 _ rfl
  have hx5_3 : wr.cell? ⟨go5, (x5_1 : Int).toNat * 4 + 3, none⟩ = some (.int .i64 ((rd_T97 x0_1 x5_1).f3)) := hcc5 3 _ rfl
  have hf5_0 : wr.frozen? ⟨go5, (x5_1 : Int).toNat * 4, none⟩ = false := hfr5 0
  have hf5_1 : wr.frozen? ⟨go5, (x5_1 : Int).toNat * 4 + 1, none⟩ = false := hfr5 1
  have hf5_2 : wr.frozen? ⟨go5, (x5_1 : Int).toNat * 4 + 2, none⟩ = false := hfr5 2
  have hf5_3 : wr.frozen? ⟨go5, (x5_1 : Int).toNat * 4 + 3, none⟩ = false := hfr5 3
  clear hcl5 hcc5 hfr5; (try clear hM5)
  replace p5 := eq_true p5
  replace q5 := eq_true q5
  have HX10 := aM (show Kd.R k97 97 wr w0.heap.size (fun k_ => (P0_ k_ ∨ w.heap.size ≤ k_)) (.slice (some ⟨go5, 0, none⟩) x0_1.length co9) x0_1 from HO_0.out)
  obtain ⟨ce10, hcl10, hM10, hcc10, hfr10⟩ := Kd.R_elem HX10.out z97 (x5_1 : Int) (oD ‹_›) (by have h_ : (x5_1 : Int) < ((x0_1.length : Int) : Int) := oD ‹_›; exact h_)
  obtain rfl := k97_openM hM10
  have HP10 := Kd.R_seg HX10.out (x5_1 : Int) (oD ‹_›) (by have h_ : (x5_1 : Int) < ((x0_1.length : Int) : Int) := oD ‹_›; exact h_) (seg := [.int .i64 x1_1]) (j := 0) hcl10 hcc10 (show 1 ≤ 4 from by decide) (x' := (⟨x1_1, (rd_T97 x0_1 x5_1).f1, (rd_T97 x0_1 x5_1).f2, (rd_T97 x0_1 x5_1).f3⟩ : S97)) (k97_mkM _ _ _ (⟨x1_1, (rd_T97 x0_1 x5_1).f1, (rd_T97 x0_1 x5_1).f2, (rd_T97 x0_1 x5_1).f3⟩ : S97) ) (fun _ hk => hk)
  have hx10_0 := hcc10 0 _ rfl
  (try simp only [show (k97).sz = 4 from rfl, Nat.mul_one, Nat.add_zero] at hx10_0)
  have hf10_0 := hfr10 0
  (try simp only [show (k97).sz = 4 from rfl, Nat.mul_one, Nat.add_zero] at hf10_0)
  clear hcl10 hcc10 hfr10; (try clear hM10)
  go_wp2_with (first | ((with_reducible refine gate_store (t := 3) (p := 16) rfl ?_); refine store_event (t := 3) (p := 16) (v := ?vo_w11) (w1 := (wr.setCell ⟨go5, (x5_1 : Int).toNat * 4, none⟩ (.int .i64 x1_1))) ?hg ?ho ?hn ?hr ?_; (case ho => rfl); (case hg => rfl); (case hn => rfl); (case hr => (go_simp; done)); intro w11 hw; have hg : wr.grownBy w11 (some go5) := (by rw [hw]; exact HP10.2); have hp_ : Kd.R k97 97 w11 w0.heap.size (fun k_ => (P0_ k_ ∨ w.heap.size ≤ k_)) (.slice (some ⟨go5, 0, none⟩) x0_1.length co9) y221 := (by rw [hw, Ny221.out]; exact HP10.1); clear HP10; replace HB := aM ((by rw [hw]; exact below_set (HB.out) GB5.out : Below w0.heap.size w0 w11)); replace HK := aM (Kept.of_grown (S := (fun k_ => P0_ k_)) hg HK.out (fun k_ e_ => (HO_0.out.1 k_ e_))); replace HO_0 := aM (hp_); clear hg hw hp_; have p6 : 0 ≤ (x5_1 : Int) := oD ‹_›; have q6 : (x5_1 : Int) < ((x0_1.length : Int) : Int) := oD ‹_›; obtain ⟨ce6, hcl6, hM6, hcc6, hfr6⟩ := Kd.R_elem HO_0.out z97 (x5_1 : Int) p6 q6; obtain rfl := k97_openM hM6; have hx6_0 : w11.cell? ⟨go5, (x5_1 : Int).toNat * 4, none⟩ = some (.int .i64 ((rd_T97 y221 x5_1).f0)) := hcc6 0 _ rfl; have hx6_1 : w11.cell? ⟨go5, (x5_1 : Int).toNat * 4 + 1, none⟩ = some (.int .i64 ((rd_T97 y221 x5_1).f1)) := hcc6 1 _ rfl; have hx6_2 : w11.cell? ⟨go5, (x5_1 : Int).toNat * 4 + 2, none⟩ = some (.int .i64 ((rd_T97 y221 x5_1).f2)) := hcc6 2 _ rfl; have hx6_3 : w11.cell? ⟨go5, (x5_1 : Int).toNat * 4 + 3, none⟩ = some (.int .i64 ((rd_T97 y221 x5_1).f3)) := hcc6 3 _ rfl; have hf6_0 : w11.frozen? ⟨go5, (x5_1 : Int).toNat * 4, none⟩ = false := hfr6 0; have hf6_1 : w11.frozen? ⟨go5, (x5_1 : Int).toNat * 4 + 1, none⟩ = false := hfr6 1; have hf6_2 : w11.frozen? ⟨go5, (x5_1 : Int).toNat * 4 + 2, none⟩ = false := hfr6 2; have hf6_3 : w11.frozen? ⟨go5, (x5_1 : Int).toNat * 4 + 3, none⟩ = false := hfr6 3; clear hcl6 hcc6 hfr6; (try clear hM6); replace p6 := eq_true p6; replace q6 := eq_true q6; have HX12 := aM (show Kd.R k97 97 w11 w0.heap.size (fun k_ => (P0_ k_ ∨ w.heap.size ≤ k_)) (.slice (some ⟨go5, 0, none⟩) x0_1.length co9) y221 from HO_0.out); obtain ⟨ce12, hcl12, hM12, hcc12, hfr12⟩ := Kd.R_elem HX12.out z97 (x5_1 : Int) (oD ‹_›) (by have h_ : (x5_1 : Int) < ((x0_1.length : Int) : Int) := oD ‹_›; exact h_); obtain rfl := k97_openM hM12; have HP12 := Kd.R_seg HX12.out (x5_1 : Int) (oD ‹_›) (by have h_ : (x5_1 : Int) < ((x0_1.length : Int) : Int) := oD ‹_›; exact h_) (seg := [.int .i64 (wrap64 (x1_1 + 1))]) (j := 1) hcl12 hcc12 (show 2 ≤ 4 from by decide) (x' := (⟨(rd_T97 y221 x5_1).f0, wrap64 (x1_1 + 1), (rd_T97 y221 x5_1).f2, (rd_T97 y221 x5_1).f3⟩ : S97)) (k97_mkM _ _ _ (⟨(rd_T97 y221 x5_1).f0, wrap64 (x1_1 + 1), (rd_T97 y221 x5_1).f2, (rd_T97 y221 x5_1).f3⟩ : S97) ) (fun _ hk => hk); have hx12_1 := hcc12 1 _ rfl; (try simp only [show (k97).sz = 4 from rfl, Nat.mul_one, Nat.add_zero] at hx12_1); have hf12_1 := hfr12 1; (try simp only [show (k97).sz = 4 from rfl, Nat.mul_one, Nat.add_zero] at hf12_1); clear hcl12 hcc12 hfr12; (try clear hM12)) | ((with_reducible refine gate_store (t := 3) (p := 23) rfl ?_); refine store_event (t := 3) (p := 23) (v := ?vo_w13) (w1 := (w11.setCell ⟨go5, (x5_1 : Int).toNat * 4 + 1, none⟩ (.int .i64 (wrap64 (x1_1 + 1))))) ?hg ?ho ?hn ?hr ?_; (case ho => rfl); (case hg => rfl); (case hn => rfl); (case hr => (go_simp; done)); intro w13 hw; have hg : w11.grownBy w13 (some go5) := (by rw [hw]; exact HP12.2); have hp_ : Kd.R k97 97 w13 w0.heap.size (fun k_ => (P0_ k_ ∨ w.heap.size ≤ k_)) (.slice (some ⟨go5, 0, none⟩) x0_1.length co9) y222 := (by rw [hw, Ny222.out]; exact HP12.1); clear HP12; replace HB := aM ((by rw [hw]; exact below_set (HB.out) GB5.out : Below w0.heap.size w0 w13)); replace HK := aM (Kept.of_grown (S := (fun k_ => P0_ k_)) hg HK.out (fun k_ e_ => (HO_0.out.1 k_ e_))); replace HO_0 := aM (hp_); clear hg hw hp_; have p7 : 0 ≤ (x5_1 : Int) := oD ‹_›; have q7 : (x5_1 : Int) < ((x0_1.length : Int) : Int) := oD ‹_›; obtain ⟨ce7, hcl7, hM7, hcc7, hfr7⟩ := Kd.R_elem HO_0.out z97 (x5_1 : Int) p7 q7; obtain rfl := k97_openM hM7; have hx7_0 : w13.cell? ⟨go5, (x5_1 : Int).toNat * 4, none⟩ = some (.int .i64 ((rd_T97 y222 x5_1).f0)) := hcc7 0 _ rfl; have hx7_1 : w13.cell? ⟨go5, (x5_1 : Int).toNat * 4 + 1, none⟩ = some (.int .i64 ((rd_T97 y222 x5_1).f1)) := hcc7 1 _ rfl; have hx7_2 : w13.cell? ⟨go5, (x5_1 : Int).toNat * 4 + 2, none⟩ = some (.int .i64 ((rd_T97 y222 x5_1).f2)) := hcc7 2 _ rfl; have hx7_3 : w13.cell? ⟨go5, (x5_1 : Int).toNat * 4 + 3, none⟩ = some (.int .i64 ((rd_T97 y222 x5_1).f3)) := hcc7 3 _ rfl; have hf7_0 : w13.frozen? ⟨go5, (x5_1 : Int).toNat * 4, none⟩ = false := hfr7 0; have hf7_1 : w13.frozen? ⟨go5, (x5_1 : Int).toNat * 4 + 1, none⟩ = false := hfr7 1; have hf7_2 : w13.frozen? ⟨go5, (x5_1 : Int).toNat * 4 + 2, none⟩ = false := hfr7 2; have hf7_3 : w13.frozen? ⟨go5, (x5_1 : Int).toNat * 4 + 3, none⟩ = false := hfr7 3; clear hcl7 hcc7 hfr7; (try clear hM7); replace p7 := eq_true p7; replace q7 := eq_true q7; have HX14 := aM (show Kd.R k97 97 w13 w0.heap.size (fun k_ => (P0_ k_ ∨ w.heap.size ≤ k_)) (.slice (some ⟨go5, 0, none⟩) x0_1.length co9) y222 from HO_0.out); obtain ⟨ce14, hcl14, hM14, hcc14, hfr14⟩ := Kd.R_elem HX14.out z97 (x5_1 : Int) (oD ‹_›) (by have h_ : (x5_1 : Int) < ((x0_1.length : Int) : Int) := oD ‹_›; exact h_); obtain rfl := k97_openM hM14; have HP14 := Kd.R_seg HX14.out (x5_1 : Int) (oD ‹_›) (by have h_ : (x5_1 : Int) < ((x0_1.length : Int) : Int) := oD ‹_›; exact h_) (seg := [.int .i64 (wrap64 ((wrap64 (x1_1 + 1)) + 1))]) (j := 2) hcl14 hcc14 (show 3 ≤ 4 from by decide) (x' := (⟨(rd_T97 y222 x5_1).f0, (rd_T97 y222 x5_1).f1, wrap64 ((wrap64 (x1_1 + 1)) + 1), (rd_T97 y222 x5_1).f3⟩ : S97)) (k97_mkM _ _ _ (⟨(rd_T97 y222 x5_1).f0, (rd_T97 y222 x5_1).f1, wrap64 ((wrap64 (x1_1 + 1)) + 1), (rd_T97 y222 x5_1).f3⟩ : S97) ) (fun _ hk => hk); have hx14_2 := hcc14 2 _ rfl; (try simp only [show (k97).sz = 4 from rfl, Nat.mul_one, Nat.add_zero] at hx14_2); have hf14_2 := hfr14 2; (try simp only [show (k97).sz = 4 from rfl, Nat.mul_one, Nat.add_zero] at hf14_2); clear hcl14 hcc14 hfr14; (try clear hM14)) | ((with_reducible refine gate_store (t := 3) (p := 30) rfl ?_); refine store_event (t := 3) (p := 30) (v := ?vo_w15) (w1 := (w13.setCell ⟨go5, (x5_1 : Int).toNat * 4 + 2, none⟩ (.int .i64 (wrap64 ((wrap64 (x1_1 + 1)) + 1))))) ?hg ?ho ?hn ?hr ?_; (case ho => rfl); (case hg => rfl); (case hn => rfl); (case hr => (go_simp; done)); intro w15 hw; have hg : w13.grownBy w15 (some go5) := (by rw [hw]; exact HP14.2); have hp_ : Kd.R k97 97 w15 w0.heap.size (fun k_ => (P0_ k_ ∨ w.heap.size ≤ k_)) (.slice (some ⟨go5, 0, none⟩) x0_1.length co9) y223 := (by rw [hw, Ny223.out]; exact HP14.1); clear HP14; replace HB := aM ((by rw [hw]; exact below_set (HB.out) GB5.out : Below w0.heap.size w0 w15)); replace HK := aM (Kept.of_grown (S := (fun k_ => P0_ k_)) hg HK.out (fun k_ e_ => (HO_0.out.1 k_ e_))); replace HO_0 := aM (hp_); clear hg hw hp_; have p8 : 0 ≤ (x5_1 : Int) := oD ‹_›; have q8 : (x5_1 : Int) < ((x0_1.length : Int) : Int) := oD ‹_›; obtain ⟨ce8, hcl8, hM8, hcc8, hfr8⟩ := Kd.R_elem HO_0.out z97 (x5_1 : Int) p8 q8; obtain rfl := k97_openM hM8; have hx8_0 : w15.cell? ⟨go5, (x5_1 : Int).toNat * 4, none⟩ = some (.int .i64 ((rd_T97 y223 x5_1).f0)) := hcc8 0 _ rfl; have hx8_1 : w15.cell? ⟨go5, (x5_1 : Int).toNat * 4 + 1, none⟩ = some (.int .i64 ((rd_T97 y223 x5_1).f1)) := hcc8 1 _ rfl; have hx8_2 : w15.cell? ⟨go5, (x5_1 : Int).toNat * 4 + 2, none⟩ = some (.int .i64 ((rd_T97 y223 x5_1).f2)) := hcc8 2 _ rfl; have hx8_3 : w15.cell? ⟨go5, (x5_1 : Int).toNat * 4 + 3, none⟩ = some (.int .i64 ((rd_T97 y223 x5_1).f3)) := hcc8 3 _ rfl; have hf8_0 : w15.frozen? ⟨go5, (x5_1 : Int).toNat * 4, none⟩ = false := hfr8 0; have hf8_1 : w15.frozen? ⟨go5, (x5_1 : Int).toNat * 4 + 1, none⟩ = false := hfr8 1; have hf8_2 : w15.frozen? ⟨go5, (x5_1 : Int).toNat * 4 + 2, none⟩ = false := hfr8 2; have hf8_3 : w15.frozen? ⟨go5, (x5_1 : Int).toNat * 4 + 3, none⟩ = false := hfr8 3; clear hcl8 hcc8 hfr8; (try clear hM8); replace p8 := eq_true p8; replace q8 := eq_true q8; have HX16 := aM (show Kd.R k97 97 w15 w0.heap.size (fun k_ => (P0_ k_ ∨ w.heap.size ≤ k_)) (.slice (some ⟨go5, 0, none⟩) x0_1.length co9) y223 from HO_0.out); obtain ⟨ce16, hcl16, hM16, hcc16, hfr16⟩ := Kd.R_elem HX16.out z97 (x5_1 : Int) (oD ‹_›) (by have h_ : (x5_1 : Int) < ((x0_1.length : Int) : Int) := oD ‹_›; exact h_); obtain rfl := k97_openM hM16; have HP16 := Kd.R_seg HX16.out (x5_1 : Int) (oD ‹_›) (by have h_ : (x5_1 : Int) < ((x0_1.length : Int) : Int) := oD ‹_›; exact h_) (seg := [.int .i64 (wrap64 ((wrap64 ((wrap64 (x1_1 + 1)) + 1)) + 1))]) (j := 3) hcl16 hcc16 (show 4 ≤ 4 from by decide) (x' := (⟨(rd_T97 y223 x5_1).f0, (rd_T97 y223 x5_1).f1, (rd_T97 y223 x5_1).f2, wrap64 ((wrap64 ((wrap64 (x1_1 + 1)) + 1)) + 1)⟩ : S97)) (k97_mkM _ _ _ (⟨(rd_T97 y223 x5_1).f0, (rd_T97 y223 x5_1).f1, (rd_T97 y223 x5_1).f2, wrap64 ((wrap64 ((wrap64 (x1_1 + 1)) + 1)) + 1)⟩ : S97) ) (fun _ hk => hk); have hx16_3 := hcc16 3 _ rfl; (try simp only [show (k97).sz = 4 from rfl, Nat.mul_one, Nat.add_zero] at hx16_3); have hf16_3 := hfr16 3; (try simp only [show (k97).sz = 4 from rfl, Nat.mul_one, Nat.add_zero] at hf16_3); clear hcl16 hcc16 hfr16; (try clear hM16)) | ((with_reducible refine gate_store (t := 3) (p := 37) rfl ?_); refine store_event (t := 3) (p := 37) (v := ?vo_w17) (w1 := (w15.setCell ⟨go5, (x5_1 : Int).toNat * 4 + 3, none⟩ (.int .i64 (wrap64 ((wrap64 ((wrap64 (x1_1 + 1)) + 1)) + 1))))) ?hg ?ho ?hn ?hr ?_; (case ho => rfl); (case hg => rfl); (case hn => rfl); (case hr => (go_simp; done)); intro w17 hw; have hg : w15.grownBy w17 (some go5) := (by rw [hw]; exact HP16.2); have hp_ : Kd.R k97 97 w17 w0.heap.size (fun k_ => (P0_ k_ ∨ w.heap.size ≤ k_)) (.slice (some ⟨go5, 0, none⟩) x0_1.length co9) y224 := (by rw [hw, Ny224.out]; exact HP16.1); clear HP16; replace HB := aM ((by rw [hw]; exact below_set (HB.out) GB5.out : Below w0.heap.size w0 w17)); replace HK := aM (Kept.of_grown (S := (fun k_ => P0_ k_)) hg HK.out (fun k_ e_ => (HO_0.out.1 k_ e_))); replace HO_0 := aM (hp_); clear hg hw hp_))
  go_roundg k1
  case measure => have := HK1.out; omega
  case rel => exact ⟨(y224), (wrap64 ((wrap64 ((wrap64 ((wrap64 (x1_1 + 1)) + 1)) + 1)) + 1)), (wrap64 (x5_1 + 1)), (by rfl), (by rfl), H', ⟨by have := HK1.out; omega⟩, ⟨by exact HO_0.out⟩, ⟨by repeat ((with_reducible exact HK.out))⟩, ⟨by repeat ((with_reducible exact HB.out))⟩⟩
def laws_markNet.f (k : Nat) (l0_0 : List ByteArray) (l0_1 : List (S92)) (l0_2 : List Int) (l0_3 : List Int) (l0_4 : List (S95)) (l0_5 : List (S97)) (a1 : Int) : Option (Int × List ByteArray × (List (S92)) × List Int × List Int × (List (S95)) × (List (S97))) := (laws_markStringS.f k l0_0 a1).bind fun bt226 => ((laws_markLinkS.f k l0_1 bt226.1).bind fun bt228 => ((laws_markIntS.f k l0_2 bt228.1).bind fun bt230 => ((laws_markIntS.f k l0_3 bt230.1).bind fun bt232 => ((laws_markImportS.f k l0_4 bt232.1).bind fun bt234 => ((laws_markFilterS.f k l0_5 bt234.1).bind fun bt236 => (some (bt236.1, bt226.2, bt228.2, bt230.2, bt232.2, bt234.2, bt236.2)))))))
theorem laws_markNet.calls (k : Nat) (P0_0_ : Nat → Prop) (u9000_ : Value) (l0_0 : List ByteArray) (P0_1_ : Nat → Prop) (u9001_ : Value) (l0_1 : List (S92)) (P0_2_ : Nat → Prop) (u9002_ : Value) (l0_2 : List Int) (P0_3_ : Nat → Prop) (u9003_ : Value) (l0_3 : List Int) (P0_4_ : Nat → Prop) (u9004_ : Value) (l0_4 : List (S95)) (P0_5_ : Nat → Prop) (u9005_ : Value) (l0_5 : List (S97)) (a1 : Int) (r1 : Int) (r2 : List ByteArray) (r3 : List (S92)) (r4 : List Int) (r5 : List Int) (r6 : List (S95)) (r7 : List (S97)) (w0 w : World) (hB : Below w0.heap.size w0 w) (ho0_0 : Kd.R Kd.string 9 w w0.heap.size P0_0_ u9000_ l0_0) (ho0_1 : Kd.R k92 92 w w0.heap.size P0_1_ u9001_ l0_1) (ho0_2 : Kd.R (Kd.int .i64) 3 w w0.heap.size P0_2_ u9002_ l0_2) (hp0_2_0_3 : ∀ k_, P0_2_ k_ → ¬ P0_3_ k_) (ho0_3 : Kd.R (Kd.int .i64) 3 w w0.heap.size P0_3_ u9003_ l0_3) (hp0_3_0_2 : ∀ k_, P0_3_ k_ → ¬ P0_2_ k_) (ho0_4 : Kd.R k95 95 w w0.heap.size P0_4_ u9004_ l0_4) (ho0_5 : Kd.R k97 97 w w0.heap.size P0_5_ u9005_ l0_5) (h : laws_markNet.f k l0_0 l0_1 l0_2 l0_3 l0_4 l0_5 a1 = some (r1, r2, r3, r4, r5, r6, r7)) :
  Calls Try.prog 18 #[.agg #[u9000_, u9001_, u9002_, u9003_, u9004_, u9005_], .int .i64 a1] w fun e w' => e = .returned (.int .i64 r1) ∧ Kd.R Kd.string 9 w' w0.heap.size (fun k_ => ((P0_0_ k_ ∨ P0_1_ k_ ∨ P0_2_ k_ ∨ P0_3_ k_ ∨ P0_4_ k_ ∨ P0_5_ k_) ∨ w.heap.size ≤ k_)) u9000_ r2 ∧ Kd.R k92 92 w' w0.heap.size (fun k_ => ((P0_0_ k_ ∨ P0_1_ k_ ∨ P0_2_ k_ ∨ P0_3_ k_ ∨ P0_4_ k_ ∨ P0_5_ k_) ∨ w.heap.size ≤ k_)) u9001_ r3 ∧ Kd.R (Kd.int .i64) 3 w' w0.heap.size (fun k_ => ((P0_0_ k_ ∨ P0_1_ k_ ∨ P0_2_ k_ ∨ P0_3_ k_ ∨ P0_4_ k_ ∨ P0_5_ k_) ∨ w.heap.size ≤ k_)) u9002_ r4 ∧ Kd.R (Kd.int .i64) 3 w' w0.heap.size (fun k_ => ((P0_0_ k_ ∨ P0_1_ k_ ∨ P0_2_ k_ ∨ P0_3_ k_ ∨ P0_4_ k_ ∨ P0_5_ k_) ∨ w.heap.size ≤ k_)) u9003_ r5 ∧ Kd.R k95 95 w' w0.heap.size (fun k_ => ((P0_0_ k_ ∨ P0_1_ k_ ∨ P0_2_ k_ ∨ P0_3_ k_ ∨ P0_4_ k_ ∨ P0_5_ k_) ∨ w.heap.size ≤ k_)) u9004_ r6 ∧ Kd.R k97 97 w' w0.heap.size (fun k_ => ((P0_0_ k_ ∨ P0_1_ k_ ∨ P0_2_ k_ ∨ P0_3_ k_ ∨ P0_4_ k_ ∨ P0_5_ k_) ∨ w.heap.size ≤ k_)) u9005_ r7 ∧ Below w0.heap.size w0 w' ∧ Kept w w' (fun k_ => P0_0_ k_ ∨ P0_1_ k_ ∨ P0_2_ k_ ∨ P0_3_ k_ ∨ P0_4_ k_ ∨ P0_5_ k_) := by
 have hu38 := Try.underlying38
 have HO0_0 := aM (show Kd.R Kd.string 9 w w0.heap.size (fun k_ => ((P0_0_ k_ ∨ P0_1_ k_ ∨ P0_2_ k_ ∨ P0_3_ k_ ∨ P0_4_ k_ ∨ P0_5_ k_) ∨ w.heap.size ≤ k_)) u9000_ l0_0 from Kd.R_mono ho0_0 (fun k_ hk => (.inl (.inl hk))))
 have HO0_1 := aM (show Kd.R k92 92 w w0.heap.size (fun k_ => ((P0_0_ k_ ∨ P0_1_ k_ ∨ P0_2_ k_ ∨ P0_3_ k_ ∨ P0_4_ k_ ∨ P0_5_ k_) ∨ w.heap.size ≤ k_)) u9001_ l0_1 from Kd.R_mono ho0_1 (fun k_ hk => (.inl (.inr (.inl hk)))))
 have HO0_2 := aM (show Kd.R (Kd.int .i64) 3 w w0.heap.size (fun k_ => ((P0_0_ k_ ∨ P0_1_ k_ ∨ P0_2_ k_ ∨ P0_3_ k_ ∨ P0_4_ k_ ∨ P0_5_ k_) ∨ w.heap.size ≤ k_) ∧ some k_ ≠ (u9003_ : Value).ownBlock) u9002_ l0_2 from Kd.R_mono ho0_2 (fun k_ hk => ⟨(.inl (.inr (.inr (.inl hk)))), fun e_ => hp0_2_0_3 k_ hk (ho0_3.1 k_ e_.symm)⟩))
 have HO0_3 := aM (show Kd.R (Kd.int .i64) 3 w w0.heap.size (fun k_ => ((P0_0_ k_ ∨ P0_1_ k_ ∨ P0_2_ k_ ∨ P0_3_ k_ ∨ P0_4_ k_ ∨ P0_5_ k_) ∨ w.heap.size ≤ k_) ∧ some k_ ≠ (u9002_ : Value).ownBlock) u9003_ l0_3 from Kd.R_mono ho0_3 (fun k_ hk => ⟨(.inl (.inr (.inr (.inr (.inl hk))))), fun e_ => hp0_3_0_2 k_ hk (ho0_2.1 k_ e_.symm)⟩))
 have HO0_4 := aM (show Kd.R k95 95 w w0.heap.size (fun k_ => ((P0_0_ k_ ∨ P0_1_ k_ ∨ P0_2_ k_ ∨ P0_3_ k_ ∨ P0_4_ k_ ∨ P0_5_ k_) ∨ w.heap.size ≤ k_)) u9004_ l0_4 from Kd.R_mono ho0_4 (fun k_ hk => (.inl (.inr (.inr (.inr (.inr (.inl hk))))))))
 have HO0_5 := aM (show Kd.R k97 97 w w0.heap.size (fun k_ => ((P0_0_ k_ ∨ P0_1_ k_ ∨ P0_2_ k_ ∨ P0_3_ k_ ∨ P0_4_ k_ ∨ P0_5_ k_) ∨ w.heap.size ≤ k_)) u9005_ l0_5 from Kd.R_mono ho0_5 (fun k_ hk => (.inl (.inr (.inr (.inr (.inr (.inr hk))))))))
 have HK := aM (Kept.refl w (fun k_ => P0_0_ k_ ∨ P0_1_ k_ ∨ P0_2_ k_ ∨ P0_3_ k_ ∨ P0_4_ k_ ∨ P0_5_ k_))
 have HW0 := aM hB.size
 have HB := aM hB
 clear hB
 have H : ((laws_markStringS.f k l0_0 a1).bind fun bt226 => ((laws_markLinkS.f k l0_1 bt226.1).bind fun bt228 => ((laws_markIntS.f k l0_2 bt228.1).bind fun bt230 => ((laws_markIntS.f k l0_3 bt230.1).bind fun bt232 => ((laws_markImportS.f k l0_4 bt232.1).bind fun bt234 => ((laws_markFilterS.f k l0_5 bt234.1).bind fun bt236 => (some (bt236.1, bt226.2, bt228.2, bt230.2, bt232.2, bt234.2, bt236.2)))))))) = some (r1, r2, r3, r4, r5, r6, r7) := h
 clear h
 replace H := bS H
 obtain ⟨⟨t226, t227⟩, A30, H⟩ := H
 replace H : ((laws_markLinkS.f k l0_1 t226).bind fun bt228 => ((laws_markIntS.f k l0_2 bt228.1).bind fun bt230 => ((laws_markIntS.f k l0_3 bt230.1).bind fun bt232 => ((laws_markImportS.f k l0_4 bt232.1).bind fun bt234 => ((laws_markFilterS.f k l0_5 bt234.1).bind fun bt236 => (some (bt236.1, t227, bt228.2, bt230.2, bt232.2, bt234.2, bt236.2))))))) = some (r1, r2, r3, r4, r5, r6, r7) := H
 have A3 := aM A30
 clear A30
 replace H := bS H
 obtain ⟨⟨t228, t229⟩, A40, H⟩ := H
 replace H : ((laws_markIntS.f k l0_2 t228).bind fun bt230 => ((laws_markIntS.f k l0_3 bt230.1).bind fun bt232 => ((laws_markImportS.f k l0_4 bt232.1).bind fun bt234 => ((laws_markFilterS.f k l0_5 bt234.1).bind fun bt236 => (some (bt236.1, t227, t229, bt230.2, bt232.2, bt234.2, bt236.2)))))) = some (r1, r2, r3, r4, r5, r6, r7) := H
 have A4 := aM A40
 clear A40
 replace H := bS H
 obtain ⟨⟨t230, t231⟩, A50, H⟩ := H
 replace H : ((laws_markIntS.f k l0_3 t230).bind fun bt232 => ((laws_markImportS.f k l0_4 bt232.1).bind fun bt234 => ((laws_markFilterS.f k l0_5 bt234.1).bind fun bt236 => (some (bt236.1, t227, t229, t231, bt232.2, bt234.2, bt236.2))))) = some (r1, r2, r3, r4, r5, r6, r7) := H
 have A5 := aM A50
 clear A50
 replace H := bS H
 obtain ⟨⟨t232, t233⟩, A60, H⟩ := H
 replace H : ((laws_markImportS.f k l0_4 t232).bind fun bt234 => ((laws_markFilterS.f k l0_5 bt234.1).bind fun bt236 => (some (bt236.1, t227, t229, t231, t233, bt234.2, bt236.2)))) = some (r1, r2, r3, r4, r5, r6, r7) := H
 have A6 := aM A60
 clear A60
 replace H := bS H
 obtain ⟨⟨t234, t235⟩, A70, H⟩ := H
 replace H : ((laws_markFilterS.f k l0_5 t234).bind fun bt236 => (some (bt236.1, t227, t229, t231, t233, t235, bt236.2))) = some (r1, r2, r3, r4, r5, r6, r7) := H
 have A7 := aM A70
 clear A70
 replace H := bS H
 obtain ⟨⟨t236, t237⟩, A80, H⟩ := H
 replace H : (some (t236, t227, t229, t231, t233, t235, t237)) = some (r1, r2, r3, r4, r5, r6, r7) := H
 have A8 := aM A80
 clear A80
 simp only [Option.some.injEq, Prod.mk.injEq] at H
 obtain ⟨rfl, rfl, rfl, rfl, rfl, rfl, rfl⟩ := H
 obtain ⟨Ao9, co9, eo9⟩ := Kd.R_slice HO0_0.out
 subst eo9
 obtain ⟨Ao10, co10, eo10⟩ := Kd.R_slice HO0_1.out
 subst eo10
 obtain ⟨Ao11, co11, eo11⟩ := Kd.R_slice HO0_2.out
 subst eo11
 obtain ⟨Ao12, co12, eo12⟩ := Kd.R_slice HO0_3.out
 subst eo12
 obtain ⟨Ao13, co13, eo13⟩ := Kd.R_slice HO0_4.out
 subst eo13
 obtain ⟨Ao14, co14, eo14⟩ := Kd.R_slice HO0_5.out
 subst eo14
 go_enter Try.func18, Try.ntmps18
 go_wp2_with (first | ((with_reducible refine gate_dst (N := 2) rfl ?_); refine box_event rfl (N := 2) rfl (cs := #[.slice Ao9 l0_0.length co9, .slice Ao10 l0_1.length co10, .slice Ao11 l0_2.length co11, .slice Ao12 l0_3.length co12, .slice Ao13 l0_4.length co13, .slice Ao14 l0_5.length co14]) (t := 38) (by go_simp; done) ?_; intro gb225 hg w15 hbox hb; replace HO0_0 := aM (Kd.R_below HO0_0.out hb); replace HO0_1 := aM (Kd.R_below HO0_1.out hb); replace HO0_2 := aM (Kd.R_below HO0_2.out hb); replace HO0_3 := aM (Kd.R_below HO0_3.out hb); replace HO0_4 := aM (Kd.R_below HO0_4.out hb); replace HO0_5 := aM (Kd.R_below HO0_5.out hb); have BK225 := aM (hbox); have GW225 := aM ((by rw [hg]; exact HK.out.1 : w.heap.size ≤ gb225)); replace HK := aM (Kept.below (S := (fun k_ => P0_0_ k_ ∨ P0_1_ k_ ∨ P0_2_ k_ ∨ P0_3_ k_ ∨ P0_4_ k_ ∨ P0_5_ k_)) HK.out hb); have GE225 := aM ((by rw [hg]; exact (below_size HB.out) : w0.heap.size ≤ gb225)); replace HB := aB HB hb; clear hb hbox hg; obtain ⟨hcz16_0, hcz16_1, hcz16_2, hcz16_3, hcz16_4, hcz16_5⟩ := swc6 BK225.out; obtain ⟨hfz16_0, hfz16_1, hfz16_2, hfz16_3, hfz16_4, hfz16_5⟩ := swf6 BK225.out) | (go_at_call 54; (with_reducible refine (laws_markStringS.calls k (fun k_ => some k_ = (.slice Ao9 l0_0.length co9 : Value).ownBlock) (.slice Ao9 l0_0.length co9) l0_0 a1 t226 t227 w0 _ ?side1 ?side2 A3.out).mono ?_); (case side1 => repeat ((with_reducible exact HB.out))); (case side2 => exact Kd.R_tight rfl HO0_0.out); rintro e w17 ⟨rfl, hy0, hb, hkp⟩; replace HO0_1 := aM (Kd.R_mono (ok' := fun k_ => ((P0_0_ k_ ∨ P0_1_ k_ ∨ P0_2_ k_ ∨ P0_3_ k_ ∨ P0_4_ k_ ∨ P0_5_ k_) ∨ w.heap.size ≤ k_)) (Kd.R_keptB ((Kd.R_apart' HO0_1.out (Kd.R_typed HO0_0.out) (by decide))) hkp (fun k_ hk_ hs_ => (hk_.2) hs_)) (fun k_ hk_ => hk_.1.1)); replace HO0_2 := aM (Kd.R_mono (ok' := fun k_ => ((P0_0_ k_ ∨ P0_1_ k_ ∨ P0_2_ k_ ∨ P0_3_ k_ ∨ P0_4_ k_ ∨ P0_5_ k_) ∨ w.heap.size ≤ k_) ∧ some k_ ≠ (.slice Ao12 l0_3.length co12 : Value).ownBlock) (Kd.R_keptB ((Kd.R_apart' HO0_2.out (Kd.R_typed HO0_0.out) (by decide))) hkp (fun k_ hk_ hs_ => (hk_.2) hs_)) (fun k_ hk_ => ⟨hk_.1.1.1, hk_.1.1.2⟩)); replace HO0_3 := aM (Kd.R_mono (ok' := fun k_ => ((P0_0_ k_ ∨ P0_1_ k_ ∨ P0_2_ k_ ∨ P0_3_ k_ ∨ P0_4_ k_ ∨ P0_5_ k_) ∨ w.heap.size ≤ k_) ∧ some k_ ≠ (.slice Ao11 l0_2.length co11 : Value).ownBlock) (Kd.R_keptB ((Kd.R_apart' HO0_3.out (Kd.R_typed HO0_0.out) (by decide))) hkp (fun k_ hk_ hs_ => (hk_.2) hs_)) (fun k_ hk_ => ⟨hk_.1.1.1, hk_.1.1.2⟩)); replace HO0_4 := aM (Kd.R_mono (ok' := fun k_ => ((P0_0_ k_ ∨ P0_1_ k_ ∨ P0_2_ k_ ∨ P0_3_ k_ ∨ P0_4_ k_ ∨ P0_5_ k_) ∨ w.heap.size ≤ k_)) (Kd.R_keptB ((Kd.R_apart' HO0_4.out (Kd.R_typed HO0_0.out) (by decide))) hkp (fun k_ hk_ hs_ => (hk_.2) hs_)) (fun k_ hk_ => hk_.1.1)); replace HO0_5 := aM (Kd.R_mono (ok' := fun k_ => ((P0_0_ k_ ∨ P0_1_ k_ ∨ P0_2_ k_ ∨ P0_3_ k_ ∨ P0_4_ k_ ∨ P0_5_ k_) ∨ w.heap.size ≤ k_)) (Kd.R_keptB ((Kd.R_apart' HO0_5.out (Kd.R_typed HO0_0.out) (by decide))) hkp (fun k_ hk_ hs_ => (hk_.2) hs_)) (fun k_ hk_ => hk_.1.1)); replace BK225 := aM (blk_kept BK225.out hkp (fun hs_ => (fun e_ => (Kd.R_ne HO0_0.out BK225.out (by decide)) e_) hs_)); replace HK := aM (Kept.then_ (S := (fun k_ => P0_0_ k_ ∨ P0_1_ k_ ∨ P0_2_ k_ ∨ P0_3_ k_ ∨ P0_4_ k_ ∨ P0_5_ k_)) HK.out hkp (fun k_ hs_ => (fun e_ => (HO0_0.out.1 k_ e_.symm)) hs_)); replace HO0_0 := aM (Kd.R_reok rfl hy0 (fun k_ e_ => HO0_0.out.1 k_ e_)); replace HB := aM (hb); (try clear hb); (try clear hkp); (try clear hy0); obtain ⟨hcz18_0, hcz18_1, hcz18_2, hcz18_3, hcz18_4, hcz18_5⟩ := swc6 BK225.out; obtain ⟨hfz18_0, hfz18_1, hfz18_2, hfz18_3, hfz18_4, hfz18_5⟩ := swf6 BK225.out) | (go_at_call 55; (with_reducible refine (laws_markLinkS.calls k (fun k_ => some k_ = (.slice Ao10 l0_1.length co10 : Value).ownBlock) (.slice Ao10 l0_1.length co10) l0_1 t226 t228 t229 w0 _ ?side1 ?side2 A4.out).mono ?_); (case side1 => repeat ((with_reducible exact HB.out))); (case side2 => exact Kd.R_tight rfl HO0_1.out); rintro e w19 ⟨rfl, hy0, hb, hkp⟩; replace HO0_0 := aM (Kd.R_mono (ok' := fun k_ => ((P0_0_ k_ ∨ P0_1_ k_ ∨ P0_2_ k_ ∨ P0_3_ k_ ∨ P0_4_ k_ ∨ P0_5_ k_) ∨ w.heap.size ≤ k_)) (Kd.R_keptB ((Kd.R_apart' HO0_0.out (Kd.R_typed HO0_1.out) (by decide))) hkp (fun k_ hk_ hs_ => (hk_.2) hs_)) (fun k_ hk_ => hk_.1.1)); replace HO0_2 := aM (Kd.R_mono (ok' := fun k_ => ((P0_0_ k_ ∨ P0_1_ k_ ∨ P0_2_ k_ ∨ P0_3_ k_ ∨ P0_4_ k_ ∨ P0_5_ k_) ∨ w.heap.size ≤ k_) ∧ some k_ ≠ (.slice Ao12 l0_3.length co12 : Value).ownBlock) (Kd.R_keptB ((Kd.R_apart' HO0_2.out (Kd.R_typed HO0_1.out) (by decide))) hkp (fun k_ hk_ hs_ => (hk_.2) hs_)) (fun k_ hk_ => ⟨hk_.1.1.1, hk_.1.1.2⟩)); replace HO0_3 := aM (Kd.R_mono (ok' := fun k_ => ((P0_0_ k_ ∨ P0_1_ k_ ∨ P0_2_ k_ ∨ P0_3_ k_ ∨ P0_4_ k_ ∨ P0_5_ k_) ∨ w.heap.size ≤ k_) ∧ some k_ ≠ (.slice Ao11 l0_2.length co11 : Value).ownBlock) (Kd.R_keptB ((Kd.R_apart' HO0_3.out (Kd.R_typed HO0_1.out) (by decide))) hkp (fun k_ hk_ hs_ => (hk_.2) hs_)) (fun k_ hk_ => ⟨hk_.1.1.1, hk_.1.1.2⟩)); replace HO0_4 := aM (Kd.R_mono (ok' := fun k_ => ((P0_0_ k_ ∨ P0_1_ k_ ∨ P0_2_ k_ ∨ P0_3_ k_ ∨ P0_4_ k_ ∨ P0_5_ k_) ∨ w.heap.size ≤ k_)) (Kd.R_keptB ((Kd.R_apart' HO0_4.out (Kd.R_typed HO0_1.out) (by decide))) hkp (fun k_ hk_ hs_ => (hk_.2) hs_)) (fun k_ hk_ => hk_.1.1)); replace HO0_5 := aM (Kd.R_mono (ok' := fun k_ => ((P0_0_ k_ ∨ P0_1_ k_ ∨ P0_2_ k_ ∨ P0_3_ k_ ∨ P0_4_ k_ ∨ P0_5_ k_) ∨ w.heap.size ≤ k_)) (Kd.R_keptB ((Kd.R_apart' HO0_5.out (Kd.R_typed HO0_1.out) (by decide))) hkp (fun k_ hk_ hs_ => (hk_.2) hs_)) (fun k_ hk_ => hk_.1.1)); replace BK225 := aM (blk_kept BK225.out hkp (fun hs_ => (fun e_ => (Kd.R_ne HO0_1.out BK225.out (by decide)) e_) hs_)); replace HK := aM (Kept.then_ (S := (fun k_ => P0_0_ k_ ∨ P0_1_ k_ ∨ P0_2_ k_ ∨ P0_3_ k_ ∨ P0_4_ k_ ∨ P0_5_ k_)) HK.out hkp (fun k_ hs_ => (fun e_ => (HO0_1.out.1 k_ e_.symm)) hs_)); replace HO0_1 := aM (Kd.R_reok rfl hy0 (fun k_ e_ => HO0_1.out.1 k_ e_)); replace HB := aM (hb); (try clear hb); (try clear hkp); (try clear hy0); obtain ⟨hcz20_0, hcz20_1, hcz20_2, hcz20_3, hcz20_4, hcz20_5⟩ := swc6 BK225.out; obtain ⟨hfz20_0, hfz20_1, hfz20_2, hfz20_3, hfz20_4, hfz20_5⟩ := swf6 BK225.out) | (go_at_call 19; (with_reducible refine (laws_markIntS.calls k (fun k_ => some k_ = (.slice Ao11 l0_2.length co11 : Value).ownBlock) (.slice Ao11 l0_2.length co11) l0_2 t228 t230 t231 w0 _ ?side1 ?side2 A5.out).mono ?_); (case side1 => repeat ((with_reducible exact HB.out))); (case side2 => exact Kd.R_tight rfl HO0_2.out); rintro e w21 ⟨rfl, hy0, hb, hkp⟩; replace HO0_0 := aM (Kd.R_mono (ok' := fun k_ => ((P0_0_ k_ ∨ P0_1_ k_ ∨ P0_2_ k_ ∨ P0_3_ k_ ∨ P0_4_ k_ ∨ P0_5_ k_) ∨ w.heap.size ≤ k_)) (Kd.R_keptB ((Kd.R_apart' HO0_0.out (Kd.R_typed HO0_2.out) (by decide))) hkp (fun k_ hk_ hs_ => (hk_.2) hs_)) (fun k_ hk_ => hk_.1.1)); replace HO0_1 := aM (Kd.R_mono (ok' := fun k_ => ((P0_0_ k_ ∨ P0_1_ k_ ∨ P0_2_ k_ ∨ P0_3_ k_ ∨ P0_4_ k_ ∨ P0_5_ k_) ∨ w.heap.size ≤ k_)) (Kd.R_keptB ((Kd.R_apart' HO0_1.out (Kd.R_typed HO0_2.out) (by decide))) hkp (fun k_ hk_ hs_ => (hk_.2) hs_)) (fun k_ hk_ => hk_.1.1)); replace HO0_3 := aM (Kd.R_mono (ok' := fun k_ => ((P0_0_ k_ ∨ P0_1_ k_ ∨ P0_2_ k_ ∨ P0_3_ k_ ∨ P0_4_ k_ ∨ P0_5_ k_) ∨ w.heap.size ≤ k_) ∧ some k_ ≠ (.slice Ao11 l0_2.length co11 : Value).ownBlock) (Kd.R_keptB (HO0_3.out) hkp (fun k_ hk_ hs_ => (hk_.2) hs_)) (fun k_ hk_ => ⟨hk_.1.1, hk_.1.2⟩)); replace HO0_4 := aM (Kd.R_mono (ok' := fun k_ => ((P0_0_ k_ ∨ P0_1_ k_ ∨ P0_2_ k_ ∨ P0_3_ k_ ∨ P0_4_ k_ ∨ P0_5_ k_) ∨ w.heap.size ≤ k_)) (Kd.R_keptB ((Kd.R_apart' HO0_4.out (Kd.R_typed HO0_2.out) (by decide))) hkp (fun k_ hk_ hs_ => (hk_.2) hs_)) (fun k_ hk_ => hk_.1.1)); replace HO0_5 := aM (Kd.R_mono (ok' := fun k_ => ((P0_0_ k_ ∨ P0_1_ k_ ∨ P0_2_ k_ ∨ P0_3_ k_ ∨ P0_4_ k_ ∨ P0_5_ k_) ∨ w.heap.size ≤ k_)) (Kd.R_keptB ((Kd.R_apart' HO0_5.out (Kd.R_typed HO0_2.out) (by decide))) hkp (fun k_ hk_ hs_ => (hk_.2) hs_)) (fun k_ hk_ => hk_.1.1)); replace BK225 := aM (blk_kept BK225.out hkp (fun hs_ => (fun e_ => (Kd.R_ne HO0_2.out BK225.out (by decide)) e_) hs_)); replace HK := aM (Kept.then_ (S := (fun k_ => P0_0_ k_ ∨ P0_1_ k_ ∨ P0_2_ k_ ∨ P0_3_ k_ ∨ P0_4_ k_ ∨ P0_5_ k_)) HK.out hkp (fun k_ hs_ => (fun e_ => (HO0_2.out.1 k_ e_.symm).1) hs_)); replace HO0_2 := aM (Kd.R_reok rfl hy0 (fun k_ e_ => HO0_2.out.1 k_ e_)); replace HB := aM (hb); (try clear hb); (try clear hkp); (try clear hy0); obtain ⟨hcz22_0, hcz22_1, hcz22_2, hcz22_3, hcz22_4, hcz22_5⟩ := swc6 BK225.out; obtain ⟨hfz22_0, hfz22_1, hfz22_2, hfz22_3, hfz22_4, hfz22_5⟩ := swf6 BK225.out) | (go_at_call 19; (with_reducible refine (laws_markIntS.calls k (fun k_ => some k_ = (.slice Ao12 l0_3.length co12 : Value).ownBlock) (.slice Ao12 l0_3.length co12) l0_3 t230 t232 t233 w0 _ ?side1 ?side2 A6.out).mono ?_); (case side1 => repeat ((with_reducible exact HB.out))); (case side2 => exact Kd.R_tight rfl HO0_3.out); rintro e w23 ⟨rfl, hy0, hb, hkp⟩; replace HO0_0 := aM (Kd.R_mono (ok' := fun k_ => ((P0_0_ k_ ∨ P0_1_ k_ ∨ P0_2_ k_ ∨ P0_3_ k_ ∨ P0_4_ k_ ∨ P0_5_ k_) ∨ w.heap.size ≤ k_)) (Kd.R_keptB ((Kd.R_apart' HO0_0.out (Kd.R_typed HO0_3.out) (by decide))) hkp (fun k_ hk_ hs_ => (hk_.2) hs_)) (fun k_ hk_ => hk_.1.1)); replace HO0_1 := aM (Kd.R_mono (ok' := fun k_ => ((P0_0_ k_ ∨ P0_1_ k_ ∨ P0_2_ k_ ∨ P0_3_ k_ ∨ P0_4_ k_ ∨ P0_5_ k_) ∨ w.heap.size ≤ k_)) (Kd.R_keptB ((Kd.R_apart' HO0_1.out (Kd.R_typed HO0_3.out) (by decide))) hkp (fun k_ hk_ hs_ => (hk_.2) hs_)) (fun k_ hk_ => hk_.1.1)); replace HO0_2 := aM (Kd.R_mono (ok' := fun k_ => ((P0_0_ k_ ∨ P0_1_ k_ ∨ P0_2_ k_ ∨ P0_3_ k_ ∨ P0_4_ k_ ∨ P0_5_ k_) ∨ w.heap.size ≤ k_) ∧ some k_ ≠ (.slice Ao12 l0_3.length co12 : Value).ownBlock) (Kd.R_keptB (HO0_2.out) hkp (fun k_ hk_ hs_ => (hk_.2) hs_)) (fun k_ hk_ => ⟨hk_.1.1, hk_.1.2⟩)); replace HO0_4 := aM (Kd.R_mono (ok' := fun k_ => ((P0_0_ k_ ∨ P0_1_ k_ ∨ P0_2_ k_ ∨ P0_3_ k_ ∨ P0_4_ k_ ∨ P0_5_ k_) ∨ w.heap.size ≤ k_)) (Kd.R_keptB ((Kd.R_apart' HO0_4.out (Kd.R_typed HO0_3.out) (by decide))) hkp (fun k_ hk_ hs_ => (hk_.2) hs_)) (fun k_ hk_ => hk_.1.1)); replace HO0_5 := aM (Kd.R_mono (ok' := fun k_ => ((P0_0_ k_ ∨ P0_1_ k_ ∨ P0_2_ k_ ∨ P0_3_ k_ ∨ P0_4_ k_ ∨ P0_5_ k_) ∨ w.heap.size ≤ k_)) (Kd.R_keptB ((Kd.R_apart' HO0_5.out (Kd.R_typed HO0_3.out) (by decide))) hkp (fun k_ hk_ hs_ => (hk_.2) hs_)) (fun k_ hk_ => hk_.1.1)); replace BK225 := aM (blk_kept BK225.out hkp (fun hs_ => (fun e_ => (Kd.R_ne HO0_3.out BK225.out (by decide)) e_) hs_)); replace HK := aM (Kept.then_ (S := (fun k_ => P0_0_ k_ ∨ P0_1_ k_ ∨ P0_2_ k_ ∨ P0_3_ k_ ∨ P0_4_ k_ ∨ P0_5_ k_)) HK.out hkp (fun k_ hs_ => (fun e_ => (HO0_3.out.1 k_ e_.symm).1) hs_)); replace HO0_3 := aM (Kd.R_reok rfl hy0 (fun k_ e_ => HO0_3.out.1 k_ e_)); replace HB := aM (hb); (try clear hb); (try clear hkp); (try clear hy0); obtain ⟨hcz24_0, hcz24_1, hcz24_2, hcz24_3, hcz24_4, hcz24_5⟩ := swc6 BK225.out; obtain ⟨hfz24_0, hfz24_1, hfz24_2, hfz24_3, hfz24_4, hfz24_5⟩ := swf6 BK225.out) | (go_at_call 56; (with_reducible refine (laws_markImportS.calls k (fun k_ => some k_ = (.slice Ao13 l0_4.length co13 : Value).ownBlock) (.slice Ao13 l0_4.length co13) l0_4 t232 t234 t235 w0 _ ?side1 ?side2 A7.out).mono ?_); (case side1 => repeat ((with_reducible exact HB.out))); (case side2 => exact Kd.R_tight rfl HO0_4.out); rintro e w25 ⟨rfl, hy0, hb, hkp⟩; replace HO0_0 := aM (Kd.R_mono (ok' := fun k_ => ((P0_0_ k_ ∨ P0_1_ k_ ∨ P0_2_ k_ ∨ P0_3_ k_ ∨ P0_4_ k_ ∨ P0_5_ k_) ∨ w.heap.size ≤ k_)) (Kd.R_keptB ((Kd.R_apart' HO0_0.out (Kd.R_typed HO0_4.out) (by decide))) hkp (fun k_ hk_ hs_ => (hk_.2) hs_)) (fun k_ hk_ => hk_.1.1)); replace HO0_1 := aM (Kd.R_mono (ok' := fun k_ => ((P0_0_ k_ ∨ P0_1_ k_ ∨ P0_2_ k_ ∨ P0_3_ k_ ∨ P0_4_ k_ ∨ P0_5_ k_) ∨ w.heap.size ≤ k_)) (Kd.R_keptB ((Kd.R_apart' HO0_1.out (Kd.R_typed HO0_4.out) (by decide))) hkp (fun k_ hk_ hs_ => (hk_.2) hs_)) (fun k_ hk_ => hk_.1.1)); replace HO0_2 := aM (Kd.R_mono (ok' := fun k_ => ((P0_0_ k_ ∨ P0_1_ k_ ∨ P0_2_ k_ ∨ P0_3_ k_ ∨ P0_4_ k_ ∨ P0_5_ k_) ∨ w.heap.size ≤ k_) ∧ some k_ ≠ (.slice Ao12 l0_3.length co12 : Value).ownBlock) (Kd.R_keptB ((Kd.R_apart' HO0_2.out (Kd.R_typed HO0_4.out) (by decide))) hkp (fun k_ hk_ hs_ => (hk_.2) hs_)) (fun k_ hk_ => ⟨hk_.1.1.1, hk_.1.1.2⟩)); replace HO0_3 := aM (Kd.R_mono (ok' := fun k_ => ((P0_0_ k_ ∨ P0_1_ k_ ∨ P0_2_ k_ ∨ P0_3_ k_ ∨ P0_4_ k_ ∨ P0_5_ k_) ∨ w.heap.size ≤ k_) ∧ some k_ ≠ (.slice Ao11 l0_2.length co11 : Value).ownBlock) (Kd.R_keptB ((Kd.R_apart' HO0_3.out (Kd.R_typed HO0_4.out) (by decide))) hkp (fun k_ hk_ hs_ => (hk_.2) hs_)) (fun k_ hk_ => ⟨hk_.1.1.1, hk_.1.1.2⟩)); replace HO0_5 := aM (Kd.R_mono (ok' := fun k_ => ((P0_0_ k_ ∨ P0_1_ k_ ∨ P0_2_ k_ ∨ P0_3_ k_ ∨ P0_4_ k_ ∨ P0_5_ k_) ∨ w.heap.size ≤ k_)) (Kd.R_keptB ((Kd.R_apart' HO0_5.out (Kd.R_typed HO0_4.out) (by decide))) hkp (fun k_ hk_ hs_ => (hk_.2) hs_)) (fun k_ hk_ => hk_.1.1)); replace BK225 := aM (blk_kept BK225.out hkp (fun hs_ => (fun e_ => (Kd.R_ne HO0_4.out BK225.out (by decide)) e_) hs_)); replace HK := aM (Kept.then_ (S := (fun k_ => P0_0_ k_ ∨ P0_1_ k_ ∨ P0_2_ k_ ∨ P0_3_ k_ ∨ P0_4_ k_ ∨ P0_5_ k_)) HK.out hkp (fun k_ hs_ => (fun e_ => (HO0_4.out.1 k_ e_.symm)) hs_)); replace HO0_4 := aM (Kd.R_reok rfl hy0 (fun k_ e_ => HO0_4.out.1 k_ e_)); replace HB := aM (hb); (try clear hb); (try clear hkp); (try clear hy0); obtain ⟨hcz26_0, hcz26_1, hcz26_2, hcz26_3, hcz26_4, hcz26_5⟩ := swc6 BK225.out; obtain ⟨hfz26_0, hfz26_1, hfz26_2, hfz26_3, hfz26_4, hfz26_5⟩ := swf6 BK225.out) | (go_at_call 57; (with_reducible refine (laws_markFilterS.calls k (fun k_ => some k_ = (.slice Ao14 l0_5.length co14 : Value).ownBlock) (.slice Ao14 l0_5.length co14) l0_5 t234 t236 t237 w0 _ ?side1 ?side2 A8.out).mono ?_); (case side1 => repeat ((with_reducible exact HB.out))); (case side2 => exact Kd.R_tight rfl HO0_5.out); rintro e w27 ⟨rfl, hy0, hb, hkp⟩; replace HO0_0 := aM (Kd.R_mono (ok' := fun k_ => ((P0_0_ k_ ∨ P0_1_ k_ ∨ P0_2_ k_ ∨ P0_3_ k_ ∨ P0_4_ k_ ∨ P0_5_ k_) ∨ w.heap.size ≤ k_)) (Kd.R_keptB ((Kd.R_apart' HO0_0.out (Kd.R_typed HO0_5.out) (by decide))) hkp (fun k_ hk_ hs_ => (hk_.2) hs_)) (fun k_ hk_ => hk_.1.1)); replace HO0_1 := aM (Kd.R_mono (ok' := fun k_ => ((P0_0_ k_ ∨ P0_1_ k_ ∨ P0_2_ k_ ∨ P0_3_ k_ ∨ P0_4_ k_ ∨ P0_5_ k_) ∨ w.heap.size ≤ k_)) (Kd.R_keptB ((Kd.R_apart' HO0_1.out (Kd.R_typed HO0_5.out) (by decide))) hkp (fun k_ hk_ hs_ => (hk_.2) hs_)) (fun k_ hk_ => hk_.1.1)); replace HO0_2 := aM (Kd.R_mono (ok' := fun k_ => ((P0_0_ k_ ∨ P0_1_ k_ ∨ P0_2_ k_ ∨ P0_3_ k_ ∨ P0_4_ k_ ∨ P0_5_ k_) ∨ w.heap.size ≤ k_) ∧ some k_ ≠ (.slice Ao12 l0_3.length co12 : Value).ownBlock) (Kd.R_keptB ((Kd.R_apart' HO0_2.out (Kd.R_typed HO0_5.out) (by decide))) hkp (fun k_ hk_ hs_ => (hk_.2) hs_)) (fun k_ hk_ => ⟨hk_.1.1.1, hk_.1.1.2⟩)); replace HO0_3 := aM (Kd.R_mono (ok' := fun k_ => ((P0_0_ k_ ∨ P0_1_ k_ ∨ P0_2_ k_ ∨ P0_3_ k_ ∨ P0_4_ k_ ∨ P0_5_ k_) ∨ w.heap.size ≤ k_) ∧ some k_ ≠ (.slice Ao11 l0_2.length co11 : Value).ownBlock) (Kd.R_keptB ((Kd.R_apart' HO0_3.out (Kd.R_typed HO0_5.out) (by decide))) hkp (fun k_ hk_ hs_ => (hk_.2) hs_)) (fun k_ hk_ => ⟨hk_.1.1.1, hk_.1.1.2⟩)); replace HO0_4 := aM (Kd.R_mono (ok' := fun k_ => ((P0_0_ k_ ∨ P0_1_ k_ ∨ P0_2_ k_ ∨ P0_3_ k_ ∨ P0_4_ k_ ∨ P0_5_ k_) ∨ w.heap.size ≤ k_)) (Kd.R_keptB ((Kd.R_apart' HO0_4.out (Kd.R_typed HO0_5.out) (by decide))) hkp (fun k_ hk_ hs_ => (hk_.2) hs_)) (fun k_ hk_ => hk_.1.1)); replace BK225 := aM (blk_kept BK225.out hkp (fun hs_ => (fun e_ => (Kd.R_ne HO0_5.out BK225.out (by decide)) e_) hs_)); replace HK := aM (Kept.then_ (S := (fun k_ => P0_0_ k_ ∨ P0_1_ k_ ∨ P0_2_ k_ ∨ P0_3_ k_ ∨ P0_4_ k_ ∨ P0_5_ k_)) HK.out hkp (fun k_ hs_ => (fun e_ => (HO0_5.out.1 k_ e_.symm)) hs_)); replace HO0_5 := aM (Kd.R_reok rfl hy0 (fun k_ e_ => HO0_5.out.1 k_ e_)); replace HB := aM (hb); (try clear hb); (try clear hkp); (try clear hy0)))
 go_ret
 exact ⟨by rfl, by exact HO0_0.out, by exact HO0_1.out, by exact Kd.R_mono HO0_2.out (fun _ hk => hk.1), by exact Kd.R_mono HO0_3.out (fun _ hk => hk.1), by exact HO0_4.out, by exact HO0_5.out, by repeat ((with_reducible exact HB.out)), by repeat ((with_reducible exact HK.out))⟩
def laws_markBoolS.l0 : Nat → List Bool → Int → Int → Option (Int × List Bool)
 | 0, _, _, _ => none
 | k + 1, x0, x1, x5 => if x5 < (x0.length : Int) then (if 0 ≤ x5 then (laws_markBoolS.l0 k (x0.set (x5 : Int).toNat ((Int.tmod x1 3) == 0)) (wrap64 (x1 + 1)) (wrap64 (x5 + 1))) else (none)) else (some (x1, x0))
def laws_markBoolS.f (k : Nat) (l0 : List Bool) (a1 : Int) : Option (Int × List Bool) := laws_markBoolS.l0 k l0 a1 0
theorem laws_markBoolS.calls (k : Nat) (P0_ : Nat → Prop) (u9000_ : Value) (l0 : List Bool) (a1 : Int) (r1 : Int) (r2 : List Bool) (w0 w : World) (hB : Below w0.heap.size w0 w) (ho0 : Kd.R Kd.bool 4 w w0.heap.size P0_ u9000_ l0) (h : laws_markBoolS.f k l0 a1 = some (r1, r2)) :
  Calls Try.prog 20 #[u9000_, .int .i64 a1] w fun e w' => e = .returned (.int .i64 r1) ∧ Kd.R Kd.bool 4 w' w0.heap.size (fun k_ => (P0_ k_ ∨ w.heap.size ≤ k_)) u9000_ r2 ∧ Below w0.heap.size w0 w' ∧ Kept w w' (fun k_ => P0_ k_) := by
 have HO0 := aM (show Kd.R Kd.bool 4 w w0.heap.size (fun k_ => (P0_ k_ ∨ w.heap.size ≤ k_)) u9000_ l0 from Kd.R_mono ho0 (fun k_ hk => (.inl hk)))
 have HK := aM (Kept.refl w (fun k_ => P0_ k_))
 have HW0 := aM hB.size
 have HB := aM hB
 clear hB
 have H : (laws_markBoolS.l0 k l0 a1 0) = some (r1, r2) := h
 clear h
 have H' := aM H
 clear H
 go_enter Try.func20, Try.ntmps20
 go_wp2
 go_loopg [1, 5] k (fun kq v1 v5 w' => ∃ (x0_1 : List Bool) (x1_1 : Int) (x5_1 : Int), v1 = .int .i64 x1_1 ∧ v5 = .int .i64 x5_1 ∧ Aside0 (laws_markBoolS.l0 kq x0_1 x1_1 x5_1 = some (r1, r2)) ∧ Aside0 (kq ≤ k) ∧ Aside0 (Kd.R Kd.bool 4 w' w0.heap.size (fun k_ => (P0_ k_ ∨ w.heap.size ≤ k_)) u9000_ x0_1) ∧ Aside0 (Kept w w' (fun k_ => P0_ k_)) ∧ Aside0 (Below w0.heap.size w0 w'))
 case atStart => exact ⟨(l0), (a1), (0), (by rfl), (by rfl), H', ⟨Nat.le_refl _⟩, ⟨by exact HO0.out⟩, ⟨by repeat ((with_reducible exact HK.out))⟩, ⟨by repeat ((with_reducible exact HB.out))⟩⟩
 clear H'
 obtain ⟨x0_1, x1_1, x5_1, rfl, rfl, HA, HK1, HO_0, HK, HB⟩ := hrel
 cases gk with
 | zero => exact absurd HA.out (by simp [laws_markBoolS.l0])
 | succ k1 =>
  have H := HA.out
  clear HA
  simp only [laws_markBoolS.l0] at H
  by_cases c3 : x5_1 < (x0_1.length : Int)
  rotate_left
  ·rw [if_neg c3] at H
   have c3b0 : decide (x5_1 < (x0_1.length : Int)) = false := decide_eq_false c3
   clear c3
   simp only [Option.some.injEq, Prod.mk.injEq] at H
   obtain ⟨rfl, rfl⟩ := H
   obtain ⟨Ao9, co9, eo9⟩ := Kd.R_slice HO_0.out
   subst eo9
   go_wp2
   go_ret
   exact ⟨by rfl, by exact HO_0.out, by repeat ((with_reducible exact HB.out)), by repeat ((with_reducible exact HK.out))⟩
  rw [if_pos c3] at H
  have c3b0 : decide (x5_1 < (x0_1.length : Int)) = true := decide_eq_true c3
  clear c3
  by_cases c4 : 0 ≤ x5_1
  rotate_left
  ·rw [if_neg c4] at H
   exact absurd H (by simp)
  rw [if_pos c4] at H
  have c4b0 : decide (0 ≤ x5_1) = true := decide_eq_true c4
  clear c4
  obtain ⟨y238, hy238⟩ : ∃ y_ : List Bool, y_ = (x0_1.set (x5_1 : Int).toNat ((Int.tmod x1_1 3) == 0)) := ⟨_, rfl⟩
  replace H : (laws_markBoolS.l0 k1 y238 (wrap64 (x1_1 + 1)) (wrap64 (x5_1 + 1))) = some (r1, r2) := by (rw [hy238]; with_reducible exact H)
  have Ny238 := aM hy238
  clear hy238
  have H' := aM H
  clear H
  obtain ⟨Ao6, co6, eo6⟩ := Kd.R_slice HO_0.out
  subst eo6
  have p5 : 0 ≤ (x5_1 : Int) := oD ‹_›
  have q5 : (x5_1 : Int) < ((x0_1.length : Int) : Int) := oD ‹_›
  obtain ⟨go5, co5, eo5, gb5, gl5, cl5, HG5⟩ := Kd.R_form HO_0.out (by omega)
  (cases eo5)
  have GB5 := aM gb5
  have GG5 := aM HG5
  clear gb5 gl5 HG5
  have HMgo5 := aM (show (P0_ go5 ∨ w.heap.size ≤ go5) from (HO_0.out.1 _ rfl))
  obtain ⟨hx5_0, hf5_0⟩ := Kd.R_celln false HO_0.out (x5_1 : Int) p5 q5
  replace p5 := eq_true p5
  replace q5 := eq_true q5
  have HP7 := Kd.R_putg HO_0.out (x5_1 : Int) ((Int.tmod x1_1 3) == 0)
  go_wp2_with (((with_reducible refine gate_store (t := 4) (p := 17) rfl ?_); refine store_event (t := 4) (p := 17) (v := ?vo_w8) (w1 := (wr.setCell ⟨go5, (x5_1 : Int).toNat, none⟩ (.bool ((Int.tmod x1_1 3) == 0)))) ?hg ?ho ?hn ?hr ?_; (case ho => rfl); (case hg => rfl); (case hn => rfl); (case hr => (go_simp; done)); intro w8 hw; have hg : wr.grownBy w8 (some go5) := (by rw [hw]; exact HP7.2); have hp_ : Kd.R Kd.bool 4 w8 w0.heap.size (fun k_ => (P0_ k_ ∨ w.heap.size ≤ k_)) (.slice (some ⟨go5, 0, none⟩) x0_1.length co6) y238 := (by rw [hw, Ny238.out]; exact HP7.1); clear HP7; replace HB := aM ((by rw [hw]; exact below_set (HB.out) GB5.out : Below w0.heap.size w0 w8)); replace HK := aM (Kept.of_grown (S := (fun k_ => P0_ k_)) hg HK.out (fun k_ e_ => (HO_0.out.1 k_ e_))); replace HO_0 := aM (hp_); clear hg hw hp_))
  go_roundg k1
  case measure => have := HK1.out; omega
  case rel => exact ⟨(y238), (wrap64 (x1_1 + 1)), (wrap64 (x5_1 + 1)), (by rfl), (by rfl), H', ⟨by have := HK1.out; omega⟩, ⟨by exact HO_0.out⟩, ⟨by repeat ((with_reducible exact HK.out))⟩, ⟨by repeat ((with_reducible exact HB.out))⟩⟩
def laws_markRouteS.l0 : Nat → List (S80) → Int → Int → Option (Int × (List (S80)))
 | 0, _, _, _ => none
 | k + 1, x0, x1, x5 => if x5 < (x0.length : Int) then (if 0 ≤ x5 then ((some (x0.set (x5 : Int).toNat (⟨x1, (rd_T80 x0 x5).f1, (rd_T80 x0 x5).f2, (rd_T80 x0 x5).f3⟩ : S80) : List (S80))).bind fun y239 => ((some (y239.set (x5 : Int).toNat (⟨(rd_T80 y239 x5).f0, wrap64 (x1 + 1), (rd_T80 y239 x5).f2, (rd_T80 y239 x5).f3⟩ : S80) : List (S80))).bind fun y240 => ((some (y240.set (x5 : Int).toNat (⟨(rd_T80 y240 x5).f0, (rd_T80 y240 x5).f1, wrap64 ((wrap64 (x1 + 1)) + 1), (rd_T80 y240 x5).f3⟩ : S80) : List (S80))).bind fun y241 => (laws_markRouteS.l0 k (y241.set (x5 : Int).toNat (⟨(rd_T80 y241 x5).f0, (rd_T80 y241 x5).f1, (rd_T80 y241 x5).f2, ((Int.tmod (wrap64 ((wrap64 ((wrap64 (x1 + 1)) + 1)) + 1)) 3) == 0)⟩ : S80)) (wrap64 ((wrap64 ((wrap64 ((wrap64 (x1 + 1)) + 1)) + 1)) + 1)) (wrap64 (x5 + 1)))))) else (none)) else (some (x1, x0))
def laws_markRouteS.f (k : Nat) (l0 : List (S80)) (a1 : Int) : Option (Int × (List (S80))) := laws_markRouteS.l0 k l0 a1 0
theorem laws_markRouteS.calls (k : Nat) (P0_ : Nat → Prop) (u9000_ : Value) (l0 : List (S80)) (a1 : Int) (r1 : Int) (r2 : List (S80)) (w0 w : World) (hB : Below w0.heap.size w0 w) (ho0 : Kd.R k80 80 w w0.heap.size P0_ u9000_ l0) (h : laws_markRouteS.f k l0 a1 = some (r1, r2)) :
  Calls Try.prog 21 #[u9000_, .int .i64 a1] w fun e w' => e = .returned (.int .i64 r1) ∧ Kd.R k80 80 w' w0.heap.size (fun k_ => (P0_ k_ ∨ w.heap.size ≤ k_)) u9000_ r2 ∧ Below w0.heap.size w0 w' ∧ Kept w w' (fun k_ => P0_ k_) := by
 have HO0 := aM (show Kd.R k80 80 w w0.heap.size (fun k_ => (P0_ k_ ∨ w.heap.size ≤ k_)) u9000_ l0 from Kd.R_mono ho0 (fun k_ hk => (.inl hk)))
 have HK := aM (Kept.refl w (fun k_ => P0_ k_))
 have HW0 := aM hB.size
 have HB := aM hB
 clear hB
 have H : (laws_markRouteS.l0 k l0 a1 0) = some (r1, r2) := h
 clear h
 have H' := aM H
 clear H
 go_enter Try.func21, Try.ntmps21
 go_wp2
 go_loopg [1, 5] k (fun kq v1 v5 w' => ∃ (x0_1 : List (S80)) (x1_1 : Int) (x5_1 : Int), v1 = .int .i64 x1_1 ∧ v5 = .int .i64 x5_1 ∧ Aside0 (laws_markRouteS.l0 kq x0_1 x1_1 x5_1 = some (r1, r2)) ∧ Aside0 (kq ≤ k) ∧ Aside0 (Kd.R k80 80 w' w0.heap.size (fun k_ => (P0_ k_ ∨ w.heap.size ≤ k_)) u9000_ x0_1) ∧ Aside0 (Kept w w' (fun k_ => P0_ k_)) ∧ Aside0 (Below w0.heap.size w0 w'))
 case atStart => exact ⟨(l0), (a1), (0), (by rfl), (by rfl), H', ⟨Nat.le_refl _⟩, ⟨by exact HO0.out⟩, ⟨by repeat ((with_reducible exact HK.out))⟩, ⟨by repeat ((with_reducible exact HB.out))⟩⟩
 clear H'
 obtain ⟨x0_1, x1_1, x5_1, rfl, rfl, HA, HK1, HO_0, HK, HB⟩ := hrel
 cases gk with
 | zero => exact absurd HA.out (by simp [laws_markRouteS.l0])
 | succ k1 =>
  have H := HA.out
  clear HA
  simp only [laws_markRouteS.l0] at H
  by_cases c3 : x5_1 < (x0_1.length : Int)
  rotate_left
  ·rw [if_neg c3] at H
   have c3b0 : decide (x5_1 < (x0_1.length : Int)) = false := decide_eq_false c3
   clear c3
   simp only [Option.some.injEq, Prod.mk.injEq] at H
   obtain ⟨rfl, rfl⟩ := H
   obtain ⟨Ao18, co18, eo18⟩ := Kd.R_slice HO_0.out
   subst eo18
   go_wp2
   go_ret
   exact ⟨by rfl, by exact HO_0.out, by repeat ((with_reducible exact HB.out)), by repeat ((with_reducible exact HK.out))⟩
  rw [if_pos c3] at H
  have c3b0 : decide (x5_1 < (x0_1.length : Int)) = true := decide_eq_true c3
  clear c3
  by_cases c4 : 0 ≤ x5_1
  rotate_left
  ·rw [if_neg c4] at H
   exact absurd H (by simp)
  rw [if_pos c4] at H
  have c4b0 : decide (0 ≤ x5_1) = true := decide_eq_true c4
  clear c4
  obtain ⟨y239, hy239⟩ : ∃ y_ : List (S80), y_ = (x0_1.set (x5_1 : Int).toNat (⟨x1_1, (rd_T80 x0_1 x5_1).f1, (rd_T80 x0_1 x5_1).f2, (rd_T80 x0_1 x5_1).f3⟩ : S80)) := ⟨_, rfl⟩
  replace H : ((some (y239.set (x5_1 : Int).toNat (⟨(rd_T80 y239 x5_1).f0, wrap64 (x1_1 + 1), (rd_T80 y239 x5_1).f2, (rd_T80 y239 x5_1).f3⟩ : S80) : List (S80))).bind fun y240 => ((some (y240.set (x5_1 : Int).toNat (⟨(rd_T80 y240 x5_1).f0, (rd_T80 y240 x5_1).f1, wrap64 ((wrap64 (x1_1 + 1)) + 1), (rd_T80 y240 x5_1).f3⟩ : S80) : List (S80))).bind fun y241 => (laws_markRouteS.l0 k1 (y241.set (x5_1 : Int).toNat (⟨(rd_T80 y241 x5_1).f0, (rd_T80 y241 x5_1).f1, (rd_T80 y241 x5_1).f2, ((Int.tmod (wrap64 ((wrap64 ((wrap64 (x1_1 + 1)) + 1)) + 1)) 3) == 0)⟩ : S80)) (wrap64 ((wrap64 ((wrap64 ((wrap64 (x1_1 + 1)) + 1)) + 1)) + 1)) (wrap64 (x5_1 + 1))))) = some (r1, r2) := by (have H2_ := (Option.bind_some _ _).symm.trans H; rw [hy239]; with_reducible exact H2_)
  have Ny239 := aM hy239
  clear hy239
  obtain ⟨y240, hy240⟩ : ∃ y_ : List (S80), y_ = (y239.set (x5_1 : Int).toNat (⟨(rd_T80 y239 x5_1).f0, wrap64 (x1_1 + 1), (rd_T80 y239 x5_1).f2, (rd_T80 y239 x5_1).f3⟩ : S80)) := ⟨_, rfl⟩
  replace H : ((some (y240.set (x5_1 : Int).toNat (⟨(rd_T80 y240 x5_1).f0, (rd_T80 y240 x5_1).f1, wrap64 ((wrap64 (x1_1 + 1)) + 1), (rd_T80 y240 x5_1).f3⟩ : S80) : List (S80))).bind fun y241 => (laws_markRouteS.l0 k1 (y241.set (x5_1 : Int).toNat (⟨(rd_T80 y241 x5_1).f0, (rd_T80 y241 x5_1).f1, (rd_T80 y241 x5_1).f2, ((Int.tmod (wrap64 ((wrap64 ((wrap64 (x1_1 + 1)) + 1)) + 1)) 3) == 0)⟩ : S80)) (wrap64 ((wrap64 ((wrap64 ((wrap64 (x1_1 + 1)) + 1)) + 1)) + 1)) (wrap64 (x5_1 + 1)))) = some (r1, r2) := by (have H2_ := (Option.bind_some _ _).symm.trans H; rw [hy240]; with_reducible exact H2_)
  have Ny240 := aM hy240
  clear hy240
  obtain ⟨y241, hy241⟩ : ∃ y_ : List (S80), y_ = (y240.set (x5_1 : Int).toNat (⟨(rd_T80 y240 x5_1).f0, (rd_T80 y240 x5_1).f1, wrap64 ((wrap64 (x1_1 + 1)) + 1), (rd_T80 y240 x5_1).f3⟩ : S80)) := ⟨_, rfl⟩
  replace H : (laws_markRouteS.l0 k1 (y241.set (x5_1 : Int).toNat (⟨(rd_T80 y241 x5_1).f0, (rd_T80 y241 x5_1).f1, (rd_T80 y241 x5_1).f2, ((Int.tmod (wrap64 ((wrap64 ((wrap64 (x1_1 + 1)) + 1)) + 1)) 3) == 0)⟩ : S80)) (wrap64 ((wrap64 ((wrap64 ((wrap64 (x1_1 + 1)) + 1)) + 1)) + 1)) (wrap64 (x5_1 + 1))) = some (r1, r2) := by (have H2_ := (Option.bind_some _ _).symm.trans H; rw [hy241]; with_reducible exact H2_)
  have Ny241 := aM hy241
  clear hy241
  obtain ⟨y242, hy242⟩ : ∃ y_ : List (S80), y_ = (y241.set (x5_1 : Int).toNat (⟨(rd_T80 y241 x5_1).f0, (rd_T80 y241 x5_1).f1, (rd_T80 y241 x5_1).f2, ((Int.tmod (wrap64 ((wrap64 ((wrap64 (x1_1 + 1)) + 1)) + 1)) 3) == 0)⟩ : S80)) := ⟨_, rfl⟩
  replace H : (laws_markRouteS.l0 k1 y242 (wrap64 ((wrap64 ((wrap64 ((wrap64 (x1_1 + 1)) + 1)) + 1)) + 1)) (wrap64 (x5_1 + 1))) = some (r1, r2) := by (rw [hy242]; with_reducible exact H)
  have Ny242 := aM hy242
  clear hy242
  have H' := aM H
  clear H
  obtain ⟨Ao9, co9, eo9⟩ := Kd.R_slice HO_0.out
  subst eo9
  have p5 : 0 ≤ (x5_1 : Int) := oD ‹_›
  have q5 : (x5_1 : Int) < ((x0_1.length : Int) : Int) := oD ‹_›
  obtain ⟨go5, co5, eo5, gb5, gl5, cl5, HG5⟩ := Kd.R_form HO_0.out (by omega)
  (cases eo5)
  have GB5 := aM gb5
  have GG5 := aM HG5
  clear gb5 gl5 HG5
  have HMgo5 := aM (show (P0_ go5 ∨ w.heap.size ≤ go5) from (HO_0.out.1 _ rfl))
  obtain ⟨ce5, hcl5, hM5, hcc5, hfr5⟩ := Kd.R_elem HO_0.out z80 (x5_1 : Int) p5 q5
  obtain rfl := k80_openM hM5
  have hx5_0 : wr.cell? ⟨go5, (x5_1 : Int).toNat * 4, none⟩ = some (.int .i64 ((rd_T80 x0_1 x5_1).f0)) := hcc5 0 _ rfl
  have hx5_1 : wr.cell? ⟨go5, (x5_1 : Int).toNat * 4 + 1, none⟩ = some (.int .i64 ((rd_T80 x0_1 x5_1).f1)) := hcc5 1 _ rfl
  have hx5_2 : wr.cell? ⟨go5, (x5_1 : Int).toNat * 4 + 2, none⟩ = some (.int .i64 ((rd_T80 x0_1 x5_1).f2)) := hcc5 2 _ rfl
  have hx5_3 : wr.cell? ⟨go5, (x5_1 : Int).toNat * 4 + 3, none⟩ = some (.bool ((rd_T80 x0_1 x5_1).f3)) := hcc5 3 _ rfl
  have hf5_0 : wr.frozen? ⟨go5, (x5_1 : Int).toNat * 4, none⟩ = false := hfr5 0
  have hf5_1 : wr.frozen? ⟨go5, (x5_1 : Int).toNat * 4 + 1, none⟩ = false := hfr5 1
  have hf5_2 : wr.frozen? ⟨go5, (x5_1 : Int).toNat * 4 + 2, none⟩ = false := hfr5 2
  have hf5_3 : wr.frozen? ⟨go5, (x5_1 : Int).toNat * 4 + 3, none⟩ = false := hfr5 3
  clear hcl5 hcc5 hfr5; (try clear hM5)
  replace p5 := eq_true p5
  replace q5 := eq_true q5
  have HX10 := aM (show Kd.R k80 80 wr w0.heap.size (fun k_ => (P0_ k_ ∨ w.heap.size ≤ k_)) (.slice (some ⟨go5, 0, none⟩) x0_1.length co9) x0_1 from HO_0.out)
  obtain ⟨ce10, hcl10, hM10, hcc10, hfr10⟩ := Kd.R_elem HX10.out z80 (x5_1 : Int) (oD ‹_›) (by have h_ : (x5_1 : Int) < ((x0_1.length : Int) : Int) := oD ‹_›; exact h_)
  obtain rfl := k80_openM hM10
  have HP10 := Kd.R_seg HX10.out (x5_1 : Int) (oD ‹_›) (by have h_ : (x5_1 : Int) < ((x0_1.length : Int) : Int) := oD ‹_›; exact h_) (seg := [.int .i64 x1_1]) (j := 0) hcl10 hcc10 (show 1 ≤ 4 from by decide) (x' := (⟨x1_1, (rd_T80 x0_1 x5_1).f1, (rd_T80 x0_1 x5_1).f2, (rd_T80 x0_1 x5_1).f3⟩ : S80)) (k80_mkM _ _ _ (⟨x1_1, (rd_T80 x0_1 x5_1).f1, (rd_T80 x0_1 x5_1).f2, (rd_T80 x0_1 x5_1).f3⟩ : S80) ) (fun _ hk => hk)
  have hx10_0 := hcc10 0 _ rfl
  (try simp only [show (k80).sz = 4 from rfl, Nat.mul_one, Nat.add_zero] at hx10_0)
  have hf10_0 := hfr10 0
  (try simp only [show (k80).sz = 4 from rfl, Nat.mul_one, Nat.add_zero] at hf10_0)
  clear hcl10 hcc10 hfr10; (try clear hM10)
  go_wp2_with (first | ((with_reducible refine gate_store (t := 3) (p := 16) rfl ?_); refine store_event (t := 3) (p := 16) (v := ?vo_w11) (w1 := (wr.setCell ⟨go5, (x5_1 : Int).toNat * 4, none⟩ (.int .i64 x1_1))) ?hg ?ho ?hn ?hr ?_; (case ho => rfl); (case hg => rfl); (case hn => rfl); (case hr => (go_simp; done)); intro w11 hw; have hg : wr.grownBy w11 (some go5) := (by rw [hw]; exact HP10.2); have hp_ : Kd.R k80 80 w11 w0.heap.size (fun k_ => (P0_ k_ ∨ w.heap.size ≤ k_)) (.slice (some ⟨go5, 0, none⟩) x0_1.length co9) y239 := (by rw [hw, Ny239.out]; exact HP10.1); clear HP10; replace HB := aM ((by rw [hw]; exact below_set (HB.out) GB5.out : Below w0.heap.size w0 w11)); replace HK := aM (Kept.of_grown (S := (fun k_ => P0_ k_)) hg HK.out (fun k_ e_ => (HO_0.out.1 k_ e_))); replace HO_0 := aM (hp_); clear hg hw hp_; have p6 : 0 ≤ (x5_1 : Int) := oD ‹_›; have q6 : (x5_1 : Int) < ((x0_1.length : Int) : Int) := oD ‹_›; obtain ⟨ce6, hcl6, hM6, hcc6, hfr6⟩ := Kd.R_elem HO_0.out z80 (x5_1 : Int) p6 q6; obtain rfl := k80_openM hM6; have hx6_0 : w11.cell? ⟨go5, (x5_1 : Int).toNat * 4, none⟩ = some (.int .i64 ((rd_T80 y239 x5_1).f0)) := hcc6 0 _ rfl; have hx6_1 : w11.cell? ⟨go5, (x5_1 : Int).toNat * 4 + 1, none⟩ = some (.int .i64 ((rd_T80 y239 x5_1).f1)) := hcc6 1 _ rfl; have hx6_2 : w11.cell? ⟨go5, (x5_1 : Int).toNat * 4 + 2, none⟩ = some (.int .i64 ((rd_T80 y239 x5_1).f2)) := hcc6 2 _ rfl; have hx6_3 : w11.cell? ⟨go5, (x5_1 : Int).toNat * 4 + 3, none⟩ = some (.bool ((rd_T80 y239 x5_1).f3)) := hcc6 3 _ rfl; have hf6_0 : w11.frozen? ⟨go5, (x5_1 : Int).toNat * 4, none⟩ = false := hfr6 0; have hf6_1 : w11.frozen? ⟨go5, (x5_1 : Int).toNat * 4 + 1, none⟩ = false := hfr6 1; have hf6_2 : w11.frozen? ⟨go5, (x5_1 : Int).toNat * 4 + 2, none⟩ = false := hfr6 2; have hf6_3 : w11.frozen? ⟨go5, (x5_1 : Int).toNat * 4 + 3, none⟩ = false := hfr6 3; clear hcl6 hcc6 hfr6; (try clear hM6); replace p6 := eq_true p6; replace q6 := eq_true q6; have HX12 := aM (show Kd.R k80 80 w11 w0.heap.size (fun k_ => (P0_ k_ ∨ w.heap.size ≤ k_)) (.slice (some ⟨go5, 0, none⟩) x0_1.length co9) y239 from HO_0.out); obtain ⟨ce12, hcl12, hM12, hcc12, hfr12⟩ := Kd.R_elem HX12.out z80 (x5_1 : Int) (oD ‹_›) (by have h_ : (x5_1 : Int) < ((x0_1.length : Int) : Int) := oD ‹_›; exact h_); obtain rfl := k80_openM hM12; have HP12 := Kd.R_seg HX12.out (x5_1 : Int) (oD ‹_›) (by have h_ : (x5_1 : Int) < ((x0_1.length : Int) : Int) := oD ‹_›; exact h_) (seg := [.int .i64 (wrap64 (x1_1 + 1))]) (j := 1) hcl12 hcc12 (show 2 ≤ 4 from by decide) (x' := (⟨(rd_T80 y239 x5_1).f0, wrap64 (x1_1 + 1), (rd_T80 y239 x5_1).f2, (rd_T80 y239 x5_1).f3⟩ : S80)) (k80_mkM _ _ _ (⟨(rd_T80 y239 x5_1).f0, wrap64 (x1_1 + 1), (rd_T80 y239 x5_1).f2, (rd_T80 y239 x5_1).f3⟩ : S80) ) (fun _ hk => hk); have hx12_1 := hcc12 1 _ rfl; (try simp only [show (k80).sz = 4 from rfl, Nat.mul_one, Nat.add_zero] at hx12_1); have hf12_1 := hfr12 1; (try simp only [show (k80).sz = 4 from rfl, Nat.mul_one, Nat.add_zero] at hf12_1); clear hcl12 hcc12 hfr12; (try clear hM12)) | ((with_reducible refine gate_store (t := 3) (p := 23) rfl ?_); refine store_event (t := 3) (p := 23) (v := ?vo_w13) (w1 := (w11.setCell ⟨go5, (x5_1 : Int).toNat * 4 + 1, none⟩ (.int .i64 (wrap64 (x1_1 + 1))))) ?hg ?ho ?hn ?hr ?_; (case ho => rfl); (case hg => rfl); (case hn => rfl); (case hr => (go_simp; done)); intro w13 hw; have hg : w11.grownBy w13 (some go5) := (by rw [hw]; exact HP12.2); have hp_ : Kd.R k80 80 w13 w0.heap.size (fun k_ => (P0_ k_ ∨ w.heap.size ≤ k_)) (.slice (some ⟨go5, 0, none⟩) x0_1.length co9) y240 := (by rw [hw, Ny240.out]; exact HP12.1); clear HP12; replace HB := aM ((by rw [hw]; exact below_set (HB.out) GB5.out : Below w0.heap.size w0 w13)); replace HK := aM (Kept.of_grown (S := (fun k_ => P0_ k_)) hg HK.out (fun k_ e_ => (HO_0.out.1 k_ e_))); replace HO_0 := aM (hp_); clear hg hw hp_; have p7 : 0 ≤ (x5_1 : Int) := oD ‹_›; have q7 : (x5_1 : Int) < ((x0_1.length : Int) : Int) := oD ‹_›; obtain ⟨ce7, hcl7, hM7, hcc7, hfr7⟩ := Kd.R_elem HO_0.out z80 (x5_1 : Int) p7 q7; obtain rfl := k80_openM hM7; have hx7_0 : w13.cell? ⟨go5, (x5_1 : Int).toNat * 4, none⟩ = some (.int .i64 ((rd_T80 y240 x5_1).f0)) := hcc7 0 _ rfl; have hx7_1 : w13.cell? ⟨go5, (x5_1 : Int).toNat * 4 + 1, none⟩ = some (.int .i64 ((rd_T80 y240 x5_1).f1)) := hcc7 1 _ rfl; have hx7_2 : w13.cell? ⟨go5, (x5_1 : Int).toNat * 4 + 2, none⟩ = some (.int .i64 ((rd_T80 y240 x5_1).f2)) := hcc7 2 _ rfl; have hx7_3 : w13.cell? ⟨go5, (x5_1 : Int).toNat * 4 + 3, none⟩ = some (.bool ((rd_T80 y240 x5_1).f3)) := hcc7 3 _ rfl; have hf7_0 : w13.frozen? ⟨go5, (x5_1 : Int).toNat * 4, none⟩ = false := hfr7 0; have hf7_1 : w13.frozen? ⟨go5, (x5_1 : Int).toNat * 4 + 1, none⟩ = false := hfr7 1; have hf7_2 : w13.frozen? ⟨go5, (x5_1 : Int).toNat * 4 + 2, none⟩ = false := hfr7 2; have hf7_3 : w13.frozen? ⟨go5, (x5_1 : Int).toNat * 4 + 3, none⟩ = false := hfr7 3; clear hcl7 hcc7 hfr7; (try clear hM7); replace p7 := eq_true p7; replace q7 := eq_true q7; have HX14 := aM (show Kd.R k80 80 w13 w0.heap.size (fun k_ => (P0_ k_ ∨ w.heap.size ≤ k_)) (.slice (some ⟨go5, 0, none⟩) x0_1.length co9) y240 from HO_0.out); obtain ⟨ce14, hcl14, hM14, hcc14, hfr14⟩ := Kd.R_elem HX14.out z80 (x5_1 : Int) (oD ‹_›) (by have h_ : (x5_1 : Int) < ((x0_1.length : Int) : Int) := oD ‹_›; exact h_); obtain rfl := k80_openM hM14; have HP14 := Kd.R_seg HX14.out (x5_1 : Int) (oD ‹_›) (by have h_ : (x5_1 : Int) < ((x0_1.length : Int) : Int) := oD ‹_›; exact h_) (seg := [.int .i64 (wrap64 ((wrap64 (x1_1 + 1)) + 1))]) (j := 2) hcl14 hcc14 (show 3 ≤ 4 from by decide) (x' := (⟨(rd_T80 y240 x5_1).f0, (rd_T80 y240 x5_1).f1, wrap64 ((wrap64 (x1_1 + 1)) + 1), (rd_T80 y240 x5_1).f3⟩ : S80)) (k80_mkM _ _ _ (⟨(rd_T80 y240 x5_1).f0, (rd_T80 y240 x5_1).f1, wrap64 ((wrap64 (x1_1 + 1)) + 1), (rd_T80 y240 x5_1).f3⟩ : S80) ) (fun _ hk => hk); have hx14_2 := hcc14 2 _ rfl; (try simp only [show (k80).sz = 4 from rfl, Nat.mul_one, Nat.add_zero] at hx14_2); have hf14_2 := hfr14 2; (try simp only [show (k80).sz = 4 from rfl, Nat.mul_one, Nat.add_zero] at hf14_2); clear hcl14 hcc14 hfr14; (try clear hM14)) | ((with_reducible refine gate_store (t := 3) (p := 30) rfl ?_); refine store_event (t := 3) (p := 30) (v := ?vo_w15) (w1 := (w13.setCell ⟨go5, (x5_1 : Int).toNat * 4 + 2, none⟩ (.int .i64 (wrap64 ((wrap64 (x1_1 + 1)) + 1))))) ?hg ?ho ?hn ?hr ?_; (case ho => rfl); (case hg => rfl); (case hn => rfl); (case hr => (go_simp; done)); intro w15 hw; have hg : w13.grownBy w15 (some go5) := (by rw [hw]; exact HP14.2); have hp_ : Kd.R k80 80 w15 w0.heap.size (fun k_ => (P0_ k_ ∨ w.heap.size ≤ k_)) (.slice (some ⟨go5, 0, none⟩) x0_1.length co9) y241 := (by rw [hw, Ny241.out]; exact HP14.1); clear HP14; replace HB := aM ((by rw [hw]; exact below_set (HB.out) GB5.out : Below w0.heap.size w0 w15)); replace HK := aM (Kept.of_grown (S := (fun k_ => P0_ k_)) hg HK.out (fun k_ e_ => (HO_0.out.1 k_ e_))); replace HO_0 := aM (hp_); clear hg hw hp_; have p8 : 0 ≤ (x5_1 : Int) := oD ‹_›; have q8 : (x5_1 : Int) < ((x0_1.length : Int) : Int) := oD ‹_›; obtain ⟨ce8, hcl8, hM8, hcc8, hfr8⟩ := Kd.R_elem HO_0.out z80 (x5_1 : Int) p8 q8; obtain rfl := k80_openM hM8; have hx8_0 : w15.cell? ⟨go5, (x5_1 : Int).toNat * 4, none⟩ = some (.int .i64 ((rd_T80 y241 x5_1).f0)) := hcc8 0 _ rfl; have hx8_1 : w15.cell? ⟨go5, (x5_1 : Int).toNat * 4 + 1, none⟩ = some (.int .i64 ((rd_T80 y241 x5_1).f1)) := hcc8 1 _ rfl; have hx8_2 : w15.cell? ⟨go5, (x5_1 : Int).toNat * 4 + 2, none⟩ = some (.int .i64 ((rd_T80 y241 x5_1).f2)) := hcc8 2 _ rfl; have hx8_3 : w15.cell? ⟨go5, (x5_1 : Int).toNat * 4 + 3, none⟩ = some (.bool ((rd_T80 y241 x5_1).f3)) := hcc8 3 _ rfl; have hf8_0 : w15.frozen? ⟨go5, (x5_1 : Int).toNat * 4, none⟩ = false := hfr8 0; have hf8_1 : w15.frozen? ⟨go5, (x5_1 : Int).toNat * 4 + 1, none⟩ = false := hfr8 1; have hf8_2 : w15.frozen? ⟨go5, (x5_1 : Int).toNat * 4 + 2, none⟩ = false := hfr8 2; have hf8_3 : w15.frozen? ⟨go5, (x5_1 : Int).toNat * 4 + 3, none⟩ = false := hfr8 3; clear hcl8 hcc8 hfr8; (try clear hM8); replace p8 := eq_true p8; replace q8 := eq_true q8; have HX16 := aM (show Kd.R k80 80 w15 w0.heap.size (fun k_ => (P0_ k_ ∨ w.heap.size ≤ k_)) (.slice (some ⟨go5, 0, none⟩) x0_1.length co9) y241 from HO_0.out); obtain ⟨ce16, hcl16, hM16, hcc16, hfr16⟩ := Kd.R_elem HX16.out z80 (x5_1 : Int) (oD ‹_›) (by have h_ : (x5_1 : Int) < ((x0_1.length : Int) : Int) := oD ‹_›; exact h_); obtain rfl := k80_openM hM16; have HP16 := Kd.R_seg HX16.out (x5_1 : Int) (oD ‹_›) (by have h_ : (x5_1 : Int) < ((x0_1.length : Int) : Int) := oD ‹_›; exact h_) (seg := [.bool ((Int.tmod (wrap64 ((wrap64 ((wrap64 (x1_1 + 1)) + 1)) + 1)) 3) == 0)]) (j := 3) hcl16 hcc16 (show 4 ≤ 4 from by decide) (x' := (⟨(rd_T80 y241 x5_1).f0, (rd_T80 y241 x5_1).f1, (rd_T80 y241 x5_1).f2, ((Int.tmod (wrap64 ((wrap64 ((wrap64 (x1_1 + 1)) + 1)) + 1)) 3) == 0)⟩ : S80)) (k80_mkM _ _ _ (⟨(rd_T80 y241 x5_1).f0, (rd_T80 y241 x5_1).f1, (rd_T80 y241 x5_1).f2, ((Int.tmod (wrap64 ((wrap64 ((wrap64 (x1_1 + 1)) + 1)) + 1)) 3) == 0)⟩ : S80) ) (fun _ hk => hk); have hx16_3 := hcc16 3 _ rfl; (try simp only [show (k80).sz = 4 from rfl, Nat.mul_one, Nat.add_zero] at hx16_3); have hf16_3 := hfr16 3; (try simp only [show (k80).sz = 4 from rfl, Nat.mul_one, Nat.add_zero] at hf16_3); clear hcl16 hcc16 hfr16; (try clear hM16)) | ((with_reducible refine gate_store (t := 4) (p := 39) rfl ?_); refine store_event (t := 4) (p := 39) (v := ?vo_w17) (w1 := (w15.setCell ⟨go5, (x5_1 : Int).toNat * 4 + 3, none⟩ (.bool ((Int.tmod (wrap64 ((wrap64 ((wrap64 (x1_1 + 1)) + 1)) + 1)) 3) == 0)))) ?hg ?ho ?hn ?hr ?_; (case ho => rfl); (case hg => rfl); (case hn => rfl); (case hr => (go_simp; done)); intro w17 hw; have hg : w15.grownBy w17 (some go5) := (by rw [hw]; exact HP16.2); have hp_ : Kd.R k80 80 w17 w0.heap.size (fun k_ => (P0_ k_ ∨ w.heap.size ≤ k_)) (.slice (some ⟨go5, 0, none⟩) x0_1.length co9) y242 := (by rw [hw, Ny242.out]; exact HP16.1); clear HP16; replace HB := aM ((by rw [hw]; exact below_set (HB.out) GB5.out : Below w0.heap.size w0 w17)); replace HK := aM (Kept.of_grown (S := (fun k_ => P0_ k_)) hg HK.out (fun k_ e_ => (HO_0.out.1 k_ e_))); replace HO_0 := aM (hp_); clear hg hw hp_))
  go_roundg k1
  case measure => have := HK1.out; omega
  case rel => exact ⟨(y242), (wrap64 ((wrap64 ((wrap64 ((wrap64 (x1_1 + 1)) + 1)) + 1)) + 1)), (wrap64 (x5_1 + 1)), (by rfl), (by rfl), H', ⟨by have := HK1.out; omega⟩, ⟨by exact HO_0.out⟩, ⟨by repeat ((with_reducible exact HK.out))⟩, ⟨by repeat ((with_reducible exact HB.out))⟩⟩
def laws_heldRouteS.l0 : Nat → List (S80) → Int → Int → Option (Int)
 | 0, _, _, _ => none
 | k + 1, x0, x1, x5 => if x5 < (x0.length : Int) then (if 0 ≤ x5 then (if ((rd_T80 x0 x5).f0) = x1 then (if ((rd_T80 x0 x5).f1) = (wrap64 (x1 + 1)) then (if ((rd_T80 x0 x5).f2) = (wrap64 ((wrap64 (x1 + 1)) + 1)) then (if (((rd_T80 x0 x5).f3) != ((Int.tmod (wrap64 ((wrap64 ((wrap64 (x1 + 1)) + 1)) + 1)) 3) == 0)) = true then (some (-1)) else (laws_heldRouteS.l0 k x0 (wrap64 ((wrap64 ((wrap64 ((wrap64 (x1 + 1)) + 1)) + 1)) + 1)) (wrap64 (x5 + 1)))) else (some (-1))) else (some (-1))) else (some (-1))) else (none)) else (some x1)
def laws_heldRouteS.f (k : Nat) (l0 : List (S80)) (a1 : Int) : Option (Int) := laws_heldRouteS.l0 k l0 a1 0
theorem laws_heldRouteS.calls (k : Nat) (A0 : Option Addr) (c0 : Nat) (l0 : List (S80)) (a1 : Int) (r : Int) (w : World) (hr0 : Kd.C k80 w A0 l0.length l0) (hc0 : l0.length ≤ c0) (h : laws_heldRouteS.f k l0 a1 = some r) :
  Calls Try.prog 22 #[.slice A0 l0.length c0, .int .i64 a1] w fun e w' => e = .returned (.int .i64 r) ∧ Drawn0 w w' := by
 have HR0 := aM hr0
 have HC0 := aM hc0
 clear hr0 hc0
 have H : (laws_heldRouteS.l0 k l0 a1 0) = some r := h
 clear h
 have H' := aM H
 clear H
 go_enter Try.func22, Try.ntmps22
 go_wp2
 go_loopg [1, 5] k (fun kq v1 v5 w' => ∃ (x1_1 : Int) (x5_1 : Int), v1 = .int .i64 x1_1 ∧ v5 = .int .i64 x5_1 ∧ Aside0 (laws_heldRouteS.l0 kq l0 x1_1 x5_1 = some r) ∧ Aside0 (kq ≤ k) ∧ Drawn0 w w')
 case atStart => exact ⟨(a1), (0), (by rfl), (by rfl), H', ⟨Nat.le_refl _⟩, by repeat (exact Drawn0.refl _)⟩
 clear H'
 obtain ⟨x1_1, x5_1, rfl, rfl, HA, HK1, ⟨m1, rfl⟩⟩ := hrel
 cases gk with
 | zero => exact absurd HA.out (by simp [laws_heldRouteS.l0])
 | succ k1 =>
  have H := HA.out
  clear HA
  simp only [laws_heldRouteS.l0] at H
  by_cases c3 : x5_1 < (l0.length : Int)
  rotate_left
  ·rw [if_neg c3] at H
   have c3b0 : decide (x5_1 < (l0.length : Int)) = false := decide_eq_false c3
   clear c3
   obtain rfl := Option.some.inj H
   go_wp2
   go_ret
   exact ⟨by rfl, by repeat (first | exact Drawn0.refl _ | apply Drawn0.step)⟩
  rw [if_pos c3] at H
  have c3b0 : decide (x5_1 < (l0.length : Int)) = true := decide_eq_true c3
  clear c3
  by_cases c4 : 0 ≤ x5_1
  rotate_left
  ·rw [if_neg c4] at H
   exact absurd H (by simp)
  rw [if_pos c4] at H
  have c4b0 : decide (0 ≤ x5_1) = true := decide_eq_true c4
  clear c4
  by_cases c5 : ((rd_T80 l0 x5_1).f0) = x1_1
  rotate_left
  ·rw [if_neg c5] at H
   have c5b0 : (((rd_T80 l0 x5_1).f0) == x1_1) = false := beq_eq_false_iff_ne.mpr c5
   have c5b1 : (((rd_T80 l0 x5_1).f0) != x1_1) = true := bne_iff_ne.mpr c5
   obtain rfl := Option.some.inj H
   have p243 : 0 ≤ (x5_1 : Int) := oD ‹_›
   have q243 : x5_1 < (l0.length : Int) := oD ‹_›
   obtain ⟨ad243, e243, hx243_0, hx243_1, hx243_2, hx243_3⟩ := at_T80 HR0.out x5_1 p243 q243
   cases e243
   replace p243 := eq_true p243
   replace q243 := eq_true q243
   go_wp2
   go_ret
   exact ⟨by rfl, by repeat (first | exact Drawn0.refl _ | apply Drawn0.step)⟩
  rw [if_pos c5] at H
  have c5b0 : (((rd_T80 l0 x5_1).f0) == x1_1) = true := beq_iff_eq.mpr c5
  have c5b1 : (((rd_T80 l0 x5_1).f0) != x1_1) = false := bne_eq_false_iff_eq.mpr c5
  clear c5
  by_cases c6 : ((rd_T80 l0 x5_1).f1) = (wrap64 (x1_1 + 1))
  rotate_left
  ·rw [if_neg c6] at H
   have c6b0 : (((rd_T80 l0 x5_1).f1) == (wrap64 (x1_1 + 1))) = false := beq_eq_false_iff_ne.mpr c6
   have c6b1 : (((rd_T80 l0 x5_1).f1) != (wrap64 (x1_1 + 1))) = true := bne_iff_ne.mpr c6
   obtain rfl := Option.some.inj H
   have p243 : 0 ≤ (x5_1 : Int) := oD ‹_›
   have q243 : x5_1 < (l0.length : Int) := oD ‹_›
   obtain ⟨ad243, e243, hx243_0, hx243_1, hx243_2, hx243_3⟩ := at_T80 HR0.out x5_1 p243 q243
   cases e243
   replace p243 := eq_true p243
   replace q243 := eq_true q243
   have p244 : 0 ≤ (x5_1 : Int) := oD ‹_›
   have q244 : x5_1 < (l0.length : Int) := oD ‹_›
   obtain ⟨ad244, e244, hx244_0, hx244_1, hx244_2, hx244_3⟩ := at_T80 HR0.out x5_1 p244 q244
   obtain rfl : ad243 = ad244 := (by injection e244)
   replace p244 := eq_true p244
   replace q244 := eq_true q244
   go_wp2
   go_ret
   exact ⟨by rfl, by repeat (first | exact Drawn0.refl _ | apply Drawn0.step)⟩
  rw [if_pos c6] at H
  have c6b0 : (((rd_T80 l0 x5_1).f1) == (wrap64 (x1_1 + 1))) = true := beq_iff_eq.mpr c6
  have c6b1 : (((rd_T80 l0 x5_1).f1) != (wrap64 (x1_1 + 1))) = false := bne_eq_false_iff_eq.mpr c6
  clear c6
  by_cases c7 : ((rd_T80 l0 x5_1).f2) = (wrap64 ((wrap64 (x1_1 + 1)) + 1))
  rotate_left
  ·rw [if_neg c7] at H
   have c7b0 : (((rd_T80 l0 x5_1).f2) == (wrap64 ((wrap64 (x1_1 + 1)) + 1))) = false := beq_eq_false_iff_ne.mpr c7
   have c7b1 : (((rd_T80 l0 x5_1).f2) != (wrap64 ((wrap64 (x1_1 + 1)) + 1))) = true := bne_iff_ne.mpr c7
   obtain rfl := Option.some.inj H
   have p243 : 0 ≤ (x5_1 : Int) := oD ‹_›
   have q243 : x5_1 < (l0.length : Int) := oD ‹_›
   obtain ⟨ad243, e243, hx243_0, hx243_1, hx243_2, hx243_3⟩ := at_T80 HR0.out x5_1 p243 q243
   cases e243
   replace p243 := eq_true p243
   replace q243 := eq_true q243
   have p244 : 0 ≤ (x5_1 : Int) := oD ‹_›
   have q244 : x5_1 < (l0.length : Int) := oD ‹_›
   obtain ⟨ad244, e244, hx244_0, hx244_1, hx244_2, hx244_3⟩ := at_T80 HR0.out x5_1 p244 q244
   obtain rfl : ad243 = ad244 := (by injection e244)
   replace p244 := eq_true p244
   replace q244 := eq_true q244
   have p245 : 0 ≤ (x5_1 : Int) := oD ‹_›
   have q245 : x5_1 < (l0.length : Int) := oD ‹_›
   obtain ⟨ad245, e245, hx245_0, hx245_1, hx245_2, hx245_3⟩ := at_T80 HR0.out x5_1 p245 q245
   obtain rfl : ad243 = ad245 := (by injection e245)
   replace p245 := eq_true p245
   replace q245 := eq_true q245
   go_wp2
   go_ret
   exact ⟨by rfl, by repeat (first | exact Drawn0.refl _ | apply Drawn0.step)⟩
  rw [if_pos c7] at H
  have c7b0 : (((rd_T80 l0 x5_1).f2) == (wrap64 ((wrap64 (x1_1 + 1)) + 1))) = true := beq_iff_eq.mpr c7
  have c7b1 : (((rd_T80 l0 x5_1).f2) != (wrap64 ((wrap64 (x1_1 + 1)) + 1))) = false := bne_eq_false_iff_eq.mpr c7
  clear c7
  by_cases c8 : (((rd_T80 l0 x5_1).f3) != ((Int.tmod (wrap64 ((wrap64 ((wrap64 (x1_1 + 1)) + 1)) + 1)) 3) == 0)) = true
  ·rw [if_pos c8] at H
   have c8b0 : (((rd_T80 l0 x5_1).f3) != ((Int.tmod (wrap64 ((wrap64 ((wrap64 (x1_1 + 1)) + 1)) + 1)) 3) == 0)) = true := c8
   (try (have c8b1 : decide (((rd_T80 l0 x5_1).f3) = ((Int.tmod (wrap64 ((wrap64 ((wrap64 (x1_1 + 1)) + 1)) + 1)) 3) == 0)) = false := by simpa using c8))
   (try (have c8b2 : (((rd_T80 l0 x5_1).f3) == ((Int.tmod (wrap64 ((wrap64 ((wrap64 (x1_1 + 1)) + 1)) + 1)) 3) == 0)) = false := by simpa using c8))
   (try (have c8b3 : ¬ (((rd_T80 l0 x5_1).f3) = ((Int.tmod (wrap64 ((wrap64 ((wrap64 (x1_1 + 1)) + 1)) + 1)) 3) == 0)) := by simpa using c8))
   clear c8
   obtain rfl := Option.some.inj H
   have p243 : 0 ≤ (x5_1 : Int) := oD ‹_›
   have q243 : x5_1 < (l0.length : Int) := oD ‹_›
   obtain ⟨ad243, e243, hx243_0, hx243_1, hx243_2, hx243_3⟩ := at_T80 HR0.out x5_1 p243 q243
   cases e243
   replace p243 := eq_true p243
   replace q243 := eq_true q243
   have p244 : 0 ≤ (x5_1 : Int) := oD ‹_›
   have q244 : x5_1 < (l0.length : Int) := oD ‹_›
   obtain ⟨ad244, e244, hx244_0, hx244_1, hx244_2, hx244_3⟩ := at_T80 HR0.out x5_1 p244 q244
   obtain rfl : ad243 = ad244 := (by injection e244)
   replace p244 := eq_true p244
   replace q244 := eq_true q244
   have p245 : 0 ≤ (x5_1 : Int) := oD ‹_›
   have q245 : x5_1 < (l0.length : Int) := oD ‹_›
   obtain ⟨ad245, e245, hx245_0, hx245_1, hx245_2, hx245_3⟩ := at_T80 HR0.out x5_1 p245 q245
   obtain rfl : ad243 = ad245 := (by injection e245)
   replace p245 := eq_true p245
   replace q245 := eq_true q245
   have p246 : 0 ≤ (x5_1 : Int) := oD ‹_›
   have q246 : x5_1 < (l0.length : Int) := oD ‹_›
   obtain ⟨ad246, e246, hx246_0, hx246_1, hx246_2, hx246_3⟩ := at_T80 HR0.out x5_1 p246 q246
   obtain rfl : ad243 = ad246 := (by injection e246)
   replace p246 := eq_true p246
   replace q246 := eq_true q246
   go_wp2
   go_ret
   exact ⟨by rfl, by repeat (first | exact Drawn0.refl _ | apply Drawn0.step)⟩
  rw [if_neg c8] at H
  have c8b0 : (((rd_T80 l0 x5_1).f3) != ((Int.tmod (wrap64 ((wrap64 ((wrap64 (x1_1 + 1)) + 1)) + 1)) 3) == 0)) = false := by simpa using c8
  (try (have c8b1 : decide (((rd_T80 l0 x5_1).f3) = ((Int.tmod (wrap64 ((wrap64 ((wrap64 (x1_1 + 1)) + 1)) + 1)) 3) == 0)) = true := by simpa using c8))
  (try (have c8b2 : (((rd_T80 l0 x5_1).f3) == ((Int.tmod (wrap64 ((wrap64 ((wrap64 (x1_1 + 1)) + 1)) + 1)) 3) == 0)) = true := by simpa using c8))
  clear c8
  have H' := aM H
  clear H
  have p243 : 0 ≤ (x5_1 : Int) := oD ‹_›
  have q243 : x5_1 < (l0.length : Int) := oD ‹_›
  obtain ⟨ad243, e243, hx243_0, hx243_1, hx243_2, hx243_3⟩ := at_T80 HR0.out x5_1 p243 q243
  cases e243
  replace p243 := eq_true p243
  replace q243 := eq_true q243
  have p244 : 0 ≤ (x5_1 : Int) := oD ‹_›
  have q244 : x5_1 < (l0.length : Int) := oD ‹_›
  obtain ⟨ad244, e244, hx244_0, hx244_1, hx244_2, hx244_3⟩ := at_T80 HR0.out x5_1 p244 q244
  obtain rfl : ad243 = ad244 := (by injection e244)
  replace p244 := eq_true p244
  replace q244 := eq_true q244
  have p245 : 0 ≤ (x5_1 : Int) := oD ‹_›
  have q245 : x5_1 < (l0.length : Int) := oD ‹_›
  obtain ⟨ad245, e245, hx245_0, hx245_1, hx245_2, hx245_3⟩ := at_T80 HR0.out x5_1 p245 q245
  obtain rfl : ad243 = ad245 := (by injection e245)
  replace p245 := eq_true p245
  replace q245 := eq_true q245
  have p246 : 0 ≤ (x5_1 : Int) := oD ‹_›
  have q246 : x5_1 < (l0.length : Int) := oD ‹_›
  obtain ⟨ad246, e246, hx246_0, hx246_1, hx246_2, hx246_3⟩ := at_T80 HR0.out x5_1 p246 q246
  obtain rfl : ad243 = ad246 := (by injection e246)
  replace p246 := eq_true p246
  replace q246 := eq_true q246
  go_wp2
  go_roundg k1
  case measure => have := HK1.out; omega
  case rel => exact ⟨(wrap64 ((wrap64 ((wrap64 ((wrap64 (x1_1 + 1)) + 1)) + 1)) + 1)), (wrap64 (x5_1 + 1)), (by rfl), (by rfl), H', ⟨by have := HK1.out; omega⟩, by repeat (first | exact Drawn0.refl _ | apply Drawn0.step)⟩
end Go.Proofs.Ytgibacfgjmdjdaa.PFnExactIsStable
end
section
namespace Go.Proofs.Ytgibacfgjmdjdaa.PFnExactIsStable
open Go.RowKit Go.Proofs.YtgibacfgjmdjdaaW.PrintWords Go.Proofs.YtgibacfgjmdjdaaW.PrintLast Go.Proofs.YtgibacfgjmdjdaaW.PrintMore
attribute [local go_sem] max2_int min2_int max_two min_two max_three min_three max_four min_four   -- for this text's walks alone
set_option linter.unusedVariables false
set_option maxHeartbeats 8000000
set_option maxRecDepth 100000
set_option linter.unusedSimpArgs false
mutual
def spec_l07Of.l0 : Nat → List Int → List Bool → List Int → List (S80) → Int → List ByteArray → List (S92) → List Int → List Int → List (S95) → List (S97) → Option ((List (S80)) × Bool)
 | 0, _, _, _, _, _, _, _, _, _, _, _ => none
 | k + 1, x1, x2, x3, x10, x11, x186000, x186001, x186002, x186003, x186004, x186005 => if x11 < (x3.length : Int) then ((spec_l07None.f).bind fun bt189 => (if x10.length < 4398046511104 then (spec_l07Of.l0 k x1 x2 x3 (x10 ++ [(⟨bt189.1, bt189.2.1, bt189.2.2.1, bt189.2.2.2⟩ : S80)]) (wrap64 (x11 + 1)) x186000 x186001 x186002 x186003 x186004 x186005) else (none))) else (if 0 ≤ (x3.length : Int) then (if ((x3.length : Int) : Int).toNat ≤ 281474976710656 then (spec_l07Of.l1 k x1 x2 x3 x10 (List.replicate ((x3.length : Int) : Int).toNat false) 0 x186000 x186001 x186002 x186003 x186004 x186005) else (none)) else (none))
def spec_l07Of.l1 : Nat → List Int → List Bool → List Int → List (S80) → List Bool → Int → List ByteArray → List (S92) → List Int → List Int → List (S95) → List (S97) → Option ((List (S80)) × Bool)
 | 0, _, _, _, _, _, _, _, _, _, _, _, _ => none
 | k + 1, x1, x2, x3, x10, x12, x13, x186000, x186001, x186002, x186003, x186004, x186005 => if x13 ≤ (x3.length : Int) then (spec_l07Of.l2 k x1 x2 x3 x10 x12 x13 0 x186000 x186001 x186002 x186003 x186004 x186005) else (spec_l07Of.l4 k x10 x12 0)
def spec_l07Of.l2 : Nat → List Int → List Bool → List Int → List (S80) → List Bool → Int → Int → List ByteArray → List (S92) → List Int → List Int → List (S95) → List (S97) → Option ((List (S80)) × Bool)
 | 0, _, _, _, _, _, _, _, _, _, _, _, _, _ => none
 | k + 1, x1, x2, x3, x10, x12, x13, x14, x186000, x186001, x186002, x186003, x186004, x186005 => if x14 < (x3.length : Int) then (if 0 ≤ x14 then (if x14 < (x12.length : Int) then (if rdOf false x12 x14 = true then (spec_l07Of.j3 k x1 x2 x3 x10 x12 x13 x14 (rd x3 x14) true x186000 x186001 x186002 x186003 x186004 x186005) else (if (rd x3 x14) ≥ 0 then (if 0 ≤ (rd x3 x14) then (if (rd x3 x14) < (x12.length : Int) then (spec_l07Of.j3 k x1 x2 x3 x10 x12 x13 x14 (rd x3 x14) (!(rdOf false x12 (rd x3 x14))) x186000 x186001 x186002 x186003 x186004 x186005) else (none)) else (none)) else (spec_l07Of.j3 k x1 x2 x3 x10 x12 x13 x14 (rd x3 x14) false x186000 x186001 x186002 x186003 x186004 x186005))) else (none)) else (none)) else (spec_l07Of.l1 k x1 x2 x3 x10 x12 (wrap64 (x13 + 1)) x186000 x186001 x186002 x186003 x186004 x186005)
def spec_l07Of.j3 : Nat → List Int → List Bool → List Int → List (S80) → List Bool → Int → Int → Int → Bool → List ByteArray → List (S92) → List Int → List Int → List (S95) → List (S97) → Option ((List (S80)) × Bool)
 | 0, _, _, _, _, _, _, _, _, _, _, _, _, _, _, _ => none
 | k + 1, x1, x2, x3, x10, x12, x13, x14, x15, x64, x186000, x186001, x186002, x186003, x186004, x186005 => if x64 = true then (spec_l07Of.l2 k x1 x2 x3 x10 x12 x13 (wrap64 (x14 + 1)) x186000 x186001 x186002 x186003 x186004 x186005) else (if 0 ≤ x14 then (if x14 < (x12.length : Int) then ((some (x12.set (x14 : Int).toNat true : List Bool)).bind fun y202 => (if x15 = (-3) then (spec_l07Of.l2 k x1 x2 x3 x10 y202 x13 (wrap64 (x14 + 1)) x186000 x186001 x186002 x186003 x186004 x186005) else ((spec_l07Candidates.f k x186000 x186001 x186002 x186003 x186004 x186005 x14 x1 x2 x10).bind fun t203 => (spec_l07Of.l3 k x1 x2 x3 x10 y202 x13 x14 x15 false t203 0 x186000 x186001 x186002 x186003 x186004 x186005)))) else (none)) else (none))
def spec_l07Of.l3 : Nat → List Int → List Bool → List Int → List (S80) → List Bool → Int → Int → Int → Bool → List (S80) → Int → List ByteArray → List (S92) → List Int → List Int → List (S95) → List (S97) → Option ((List (S80)) × Bool)
 | 0, _, _, _, _, _, _, _, _, _, _, _, _, _, _, _, _, _ => none
 | k + 1, x1, x2, x3, x10, x12, x13, x14, x15, x16, x17, x18, x186000, x186001, x186002, x186003, x186004, x186005 => if x18 < (x17.length : Int) then (if 0 ≤ x18 then (if ((rd_T80 x17 x18).f0) = x15 then (if 0 ≤ x14 then (if x14 < (x10.length : Int) then (spec_l07Of.l3 k x1 x2 x3 (x10.set (x14 : Int).toNat (⟨(rd_T80 x17 x18).f0, (rd_T80 x17 x18).f1, (rd_T80 x17 x18).f2, (rd_T80 x17 x18).f3⟩ : S80)) x12 x13 x14 x15 true x17 (wrap64 (x18 + 1)) x186000 x186001 x186002 x186003 x186004 x186005) else (none)) else (none)) else (spec_l07Of.l3 k x1 x2 x3 x10 x12 x13 x14 x15 x16 x17 (wrap64 (x18 + 1)) x186000 x186001 x186002 x186003 x186004 x186005)) else (none)) else (if x16 = true then (spec_l07Of.l2 k x1 x2 x3 x10 x12 x13 (wrap64 (x14 + 1)) x186000 x186001 x186002 x186003 x186004 x186005) else (some (x10, false)))
def spec_l07Of.l4 : Nat → List (S80) → List Bool → Int → Option ((List (S80)) × Bool)
 | 0, _, _, _ => none
 | k + 1, x10, x12, x19 => if x19 < (x12.length : Int) then (if 0 ≤ x19 then (if rdOf false x12 x19 = true then (spec_l07Of.l4 k x10 x12 (wrap64 (x19 + 1))) else (some (x10, false))) else (none)) else (some (x10, true))
end
def spec_l07Of.f (k : Nat) (l0_0 : List ByteArray) (l0_1 : List (S92)) (l0_2 : List Int) (l0_3 : List Int) (l0_4 : List (S95)) (l0_5 : List (S97)) (l1 : List Int) (l2 : List Bool) (l3 : List Int) : Option ((List (S80)) × Bool) := spec_l07Of.l0 k l1 l2 l3 (([] : List (S80))) 0 l0_0 l0_1 l0_2 l0_3 l0_4 l0_5
theorem spec_l07Of.calls (k : Nat) (A0_0 : Option Addr) (c0_0 : Nat) (l0_0 : List ByteArray) (A0_1 : Option Addr) (c0_1 : Nat) (l0_1 : List (S92)) (A0_2 : Option Addr) (c0_2 : Nat) (l0_2 : List Int) (A0_3 : Option Addr) (c0_3 : Nat) (l0_3 : List Int) (A0_4 : Option Addr) (c0_4 : Nat) (l0_4 : List (S95)) (A0_5 : Option Addr) (c0_5 : Nat) (l0_5 : List (S97)) (A1 : Option Addr) (c1 : Nat) (l1 : List Int) (A2 : Option Addr) (c2 : Nat) (l2 : List Bool) (A3 : Option Addr) (c3 : Nat) (l3 : List Int) (r1 : List (S80)) (r2 : Bool) (w : World) (hr0_0 : Kd.C Kd.string w A0_0 l0_0.length l0_0) (hc0_0 : l0_0.length ≤ c0_0) (hr0_1 : Kd.C k92 w A0_1 l0_1.length l0_1) (hc0_1 : l0_1.length ≤ c0_1) (hr0_2 : Kd.C (Kd.int .i64) w A0_2 l0_2.length l0_2) (hc0_2 : l0_2.length ≤ c0_2) (hr0_3 : Kd.C (Kd.int .i64) w A0_3 l0_3.length l0_3) (hc0_3 : l0_3.length ≤ c0_3) (hr0_4 : Kd.C k95 w A0_4 l0_4.length l0_4) (hc0_4 : l0_4.length ≤ c0_4) (hr0_5 : Kd.C k97 w A0_5 l0_5.length l0_5) (hc0_5 : l0_5.length ≤ c0_5) (hr1 : Kd.C (Kd.int .i64) w A1 l1.length l1) (hc1 : l1.length ≤ c1) (hr2 : Kd.C Kd.bool w A2 l2.length l2) (hc2 : l2.length ≤ c2) (hr3 : Kd.C (Kd.int .i64) w A3 l3.length l3) (hc3 : l3.length ≤ c3) (h : spec_l07Of.f k l0_0 l0_1 l0_2 l0_3 l0_4 l0_5 l1 l2 l3 = some (r1, r2)) :
  Calls Try.prog 41 #[.agg #[.slice A0_0 l0_0.length c0_0, .slice A0_1 l0_1.length c0_1, .slice A0_2 l0_2.length c0_2, .slice A0_3 l0_3.length c0_3, .slice A0_4 l0_4.length c0_4, .slice A0_5 l0_5.length c0_5], .slice A1 l1.length c1, .slice A2 l2.length c2, .slice A3 l3.length c3] w fun e w' => ∃ v0_ : Value, e = .returned (.tuple #[v0_, .bool r2]) ∧ Kd.R k80 80 w' w.heap.size (fun _ => True) v0_ r1 ∧ Below w.heap.size w w' := by
 have hu38 := Try.underlying38
 have hu80 := Try.underlying80
 obtain ⟨HR0_0, HC0_0, HR0_1, HC0_1, HR0_2, HC0_2, HR0_3, HC0_3, HR0_4, HC0_4, HR0_5, HC0_5⟩ := as12 hr0_0 hc0_0 hr0_1 hc0_1 hr0_2 hc0_2 hr0_3 hc0_3 hr0_4 hc0_4 hr0_5 hc0_5
 clear hr0_0 hc0_0 hr0_1 hc0_1 hr0_2 hc0_2 hr0_3 hc0_3 hr0_4 hc0_4 hr0_5 hc0_5
 have HR1 := aM hr1
 have HC1 := aM hc1
 clear hr1 hc1
 have HR2 := aM hr2
 have HC2 := aM hc2
 clear hr2 hc2
 have HR3 := aM hr3
 have HC3 := aM hc3
 clear hr3 hc3
 have HB := aM (Below.refl w.heap.size w)
 have H : (spec_l07Of.l0 k l1 l2 l3 (([] : List (S80))) 0 l0_0 l0_1 l0_2 l0_3 l0_4 l0_5) = some (r1, r2) := h
 clear h
 obtain ⟨y186, hy186⟩ : ∃ y_ : List (S80), y_ = (([] : List (S80))) := ⟨_, rfl⟩
 replace H : (spec_l07Of.l0 k l1 l2 l3 y186 0 l0_0 l0_1 l0_2 l0_3 l0_4 l0_5) = some (r1, r2) := by (rw [hy186]; with_reducible exact H)
 have Ny186 := aM hy186
 clear hy186
 have H' := aM H
 clear H
 go_enter Try.func41, Try.ntmps41
 go_wp2_with (first | ((with_reducible refine gate_dst (N := 4) rfl ?_); refine box_event rfl (N := 4) rfl (cs := #[.slice A0_0 l0_0.length c0_0, .slice A0_1 l0_1.length c0_1, .slice A0_2 l0_2.length c0_2, .slice A0_3 l0_3.length c0_3, .slice A0_4 l0_4.length c0_4, .slice A0_5 l0_5.length c0_5]) (t := 38) (by go_simp; done) ?_; intro gb185 hg w5 hbox hb; have BK185 := aM (hbox); have GW185 := bGE HB.out hg; have GE185 := bGE HB.out hg; replace HB := aB HB hb; clear hb hbox hg) | ((with_reducible refine gate_dst (N := 20) rfl ?_); refine Kd.R_lit k80 _ 80 ?hg (N := 20) ?hd (xs := ([] : List (S80))) (inner := []) (ok := fun _ => True) (okp := fun _ => True) ?hr ?hp (fun _ hk => hk) trivial (Below.refl _ _) (Nat.le_refl _) (by simp) ?_; (case hd => rfl); (case hg => rfl); (case hr => (go_simp; done)); (case hp => exact (Reps.none _ _)); intro v187 w6 ho7 hb hg_ hnew_; clear hg_ hnew_; (rw [← Ny186.out] at ho7); have HO188 := aM (Kd.R_lower ho7 (below_size HB.out)); replace BK185 := aK BK185 hb; replace HB := aB HB hb; clear hb ho7))
 go_loopg [10, 11] k (fun kq v10 v11 w' => ∃ (x10_1 : List (S80)) (x11_1 : Int), v11 = .int .i64 x11_1 ∧ Aside0 (spec_l07Of.l0 kq l1 l2 l3 x10_1 x11_1 l0_0 l0_1 l0_2 l0_3 l0_4 l0_5 = some (r1, r2)) ∧ Aside0 (kq ≤ k) ∧ Aside0 (Kd.R k80 80 w' w.heap.size (fun _ => True) v10 x10_1) ∧ Aside0 (w'.heap[gb185]? = some (.cells #[(.slice A0_0 l0_0.length c0_0), (.slice A0_1 l0_1.length c0_1), (.slice A0_2 l0_2.length c0_2), (.slice A0_3 l0_3.length c0_3), (.slice A0_4 l0_4.length c0_4), (.slice A0_5 l0_5.length c0_5)] 38 (0, 0))) ∧ Aside0 (Below w.heap.size w w'))
 case atStart => exact ⟨(y186), (0), (by rfl), H', ⟨Nat.le_refl _⟩, ⟨by exact HO188.out⟩, ⟨by exact BK185.out⟩, ⟨by repeat ((with_reducible exact HB.out))⟩⟩
 clear H'
 obtain ⟨x10_1, x11_1, rfl, HA, HK1, HO_10, BK185, HB⟩ := hrel
 cases gk with
 | zero => exact absurd HA.out (by simp [spec_l07Of.l0])
 | succ k1 =>
  have H := HA.out
  clear HA
  simp only [spec_l07Of.l0] at H
  by_cases c8 : x11_1 < (l3.length : Int)
  ·rw [if_pos c8] at H
   have c8b0 : decide (x11_1 < (l3.length : Int)) = true := decide_eq_true c8
   clear c8
   replace H := bS H
   obtain ⟨⟨t189, t190, t191, t192⟩, A90, H⟩ := H
   replace H : (if x10_1.length < 4398046511104 then (spec_l07Of.l0 k1 l1 l2 l3 (x10_1 ++ [(⟨t189, t190, t191, t192⟩ : S80)]) (wrap64 (x11_1 + 1)) l0_0 l0_1 l0_2 l0_3 l0_4 l0_5) else (none)) = some (r1, r2) := H
   have A9 := aM A90
   clear A90
   by_cases c10 : x10_1.length < 4398046511104
   rotate_left
   ·rw [if_neg c10] at H
    exact absurd H (by simp)
   rw [if_pos c10] at H
   have LMc10 := aM c10
   clear c10
   obtain ⟨y193, hy193⟩ : ∃ y_ : List (S80), y_ = (x10_1 ++ [(⟨t189, t190, t191, t192⟩ : S80)]) := ⟨_, rfl⟩
   replace H : (spec_l07Of.l0 k1 l1 l2 l3 y193 (wrap64 (x11_1 + 1)) l0_0 l0_1 l0_2 l0_3 l0_4 l0_5) = some (r1, r2) := by (rw [hy193]; with_reducible exact H)
   have Ny193 := aM hy193
   clear hy193
   have H' := aM H
   clear H
   go_wp2_with (first | (go_at_call 72; (with_reducible refine (spec_l07None.calls  t189 t190 t191 t192 _ A9.out).mono ?_); rintro e w11 ⟨rfl, hb⟩; replace HO_10 := aM (Kd.R_below HO_10.out hb); replace BK185 := aK BK185 hb; replace HB := aB HB hb; (try clear hb)) | ((with_reducible refine gate_builtin (b := .append) (xs := #[.tmp 27, .tmp 29]) rfl ?_); at_builtin; refine Kd.R_append k80 (w0 := w) w.heap.size rfl (.tmp 27) (.tmp 29) 31 80 (.agg #[(.int .i64 0), (.int .i64 0), (.int .i64 0), (.bool false)]) 32 rfl Try.underlying31 info80 rfl (by decide) (by omega) u10 x10_1 (⟨t189, t190, t191, t192⟩ : S80) [.int .i64 t189, .int .i64 t190, .int .i64 t191, .bool t192] (fun _ => True) (fun _ => False) rfl rfl ?aP (fun _ hk => hk.elim) ?aF ?aO ?aB ?aS ?aL ?_; (case aP => exact k80_mkM _ _ _ (⟨t189, t190, t191, t192⟩ : S80)); (case aB => exact HB.out); (case aF => exact (fun _ _ => trivial)); (case aO => exact HO_10.out); (case aS => exact (below_size HB.out)); (case aL => have := LMc10.out; omega); intro v194 w12 ho hb hg hat; rw [← Ny193.out] at ho; replace BK185 := aM (blk_grown BK185.out hg (Kd.R_ne HO_10.out BK185.out (by decide))); replace HB := aM (hb); have HO195 := aM (ho); clear HO_10; clear ho hb hg hat))
   go_roundg k1
   case measure => have := HK1.out; omega
   case rel => exact ⟨(y193), (wrap64 (x11_1 + 1)), (by rfl), H', ⟨by have := HK1.out; omega⟩, ⟨by exact HO195.out⟩, ⟨by exact BK185.out⟩, ⟨by repeat ((with_reducible exact HB.out))⟩⟩
  rw [if_neg c8] at H
  have c8b0 : decide (x11_1 < (l3.length : Int)) = false := decide_eq_false c8
  clear c8
  by_cases c13 : 0 ≤ (l3.length : Int)
  rotate_left
  ·rw [if_neg c13] at H
   exact absurd H (by simp)
  rw [if_pos c13] at H
  have c13b0 := eq_true c13
  have c13b1 : decide (0 ≤ (l3.length : Int)) = true := decide_eq_true c13
  clear c13
  by_cases c14 : ((l3.length : Int) : Int).toNat ≤ 281474976710656
  rotate_left
  ·rw [if_neg c14] at H
   exact absurd H (by simp)
  rw [if_pos c14] at H
  have c14b0 := eq_true c14
  have c14b1 : decide (((l3.length : Int) : Int).toNat ≤ 281474976710656) = true := decide_eq_true c14
  clear c14
  obtain ⟨y196, hy196⟩ : ∃ y_ : List Bool, y_ = (List.replicate ((l3.length : Int) : Int).toNat false) := ⟨_, rfl⟩
  replace H : (spec_l07Of.l1 k1 l1 l2 l3 x10_1 y196 0 l0_0 l0_1 l0_2 l0_3 l0_4 l0_5) = some (r1, r2) := by (rw [hy196]; with_reducible exact H)
  have Ny196 := aM hy196
  clear hy196
  have H' := aM H
  clear H
  go_wp2_with (((with_reducible refine gate_dst (N := 33) rfl ?_); refine Kd.R_make Kd.bool _ 4 rfl (N := 33) rfl 29 _ _ rfl (l3.length : Int) rfl rfl Try.underlying29 (.bool false) 1 info4 rfl (by decide) (by omega) false (ok := fun _ => True) (okp := fun _ => True) rfl (fun _ hk => hk) trivial (oD ‹_›) (Nat.le_trans (Nat.mul_le_mul_right _ (oD ‹_› : (l3.length : Int).toNat ≤ 281474976710656)) (by omega)) (Below.refl _ _) (Nat.le_refl _) ?_; intro v197 w15 ho16 hb hg_ hnew_; clear hg_ hnew_; (rw [← Ny196.out] at ho16); replace HO_10 := aM (Kd.R_below HO_10.out hb); have HO198 := aM (Kd.R_lower ho16 (below_size HB.out)); replace BK185 := aK BK185 hb; replace HB := aB HB hb; clear hb ho16))
  go_loopg [13] k1 (fun kq v13 w' => ∃ (x10_2 : List (S80)) (x12_2 : List Bool) (x13_2 : Int), v13 = .int .i64 x13_2 ∧ Aside0 (spec_l07Of.l1 kq l1 l2 l3 x10_2 x12_2 x13_2 l0_0 l0_1 l0_2 l0_3 l0_4 l0_5 = some (r1, r2)) ∧ Aside0 (kq ≤ k1) ∧ Aside0 (Kd.R k80 80 w' w.heap.size (fun _ => True) u10 x10_2) ∧ Aside0 (Kd.R Kd.bool 4 w' w.heap.size (fun _ => True) v197 x12_2) ∧ Aside0 (w'.heap[gb185]? = some (.cells #[(.slice A0_0 l0_0.length c0_0), (.slice A0_1 l0_1.length c0_1), (.slice A0_2 l0_2.length c0_2), (.slice A0_3 l0_3.length c0_3), (.slice A0_4 l0_4.length c0_4), (.slice A0_5 l0_5.length c0_5)] 38 (0, 0))) ∧ Aside0 (Below w.heap.size w w'))
  case atStart => exact ⟨(x10_1), (y196), (0), (by rfl), H', ⟨Nat.le_refl _⟩, ⟨by exact HO_10.out⟩, ⟨by exact HO198.out⟩, ⟨by exact BK185.out⟩, ⟨by repeat ((with_reducible exact HB.out))⟩⟩
  clear H'
  clear c8b0 c13b0 c13b1 c14b0 c14b1
  obtain ⟨x10_2, x12_2, x13_2, rfl, HA, HK2, HO_10, HO_12, BK185, HB⟩ := hrel
  cases gk with
  | zero => exact absurd HA.out (by simp [spec_l07Of.l1])
  | succ k2 =>
   have H := HA.out
   clear HA
   simp only [spec_l07Of.l1] at H
   by_cases c17 : x13_2 ≤ (l3.length : Int)
   rotate_left
   ·rw [if_neg c17] at H
    have c17b0 : decide (x13_2 ≤ (l3.length : Int)) = false := decide_eq_false c17
    (try (have c17b90 := c17b0; rw [hl10_5] at c17b90))
    (try (have c17b91 := c17b0; rw [hl12_5] at c17b91))
    clear c17
    have H' := aM H
    clear H
    go_wp2
    go_loopg [19] k2 (fun kq v19 w' => ∃ (x19_3 : Int), v19 = .int .i64 x19_3 ∧ Aside0 (spec_l07Of.l4 kq x10_2 x12_2 x19_3 = some (r1, r2)) ∧ Aside0 (kq ≤ k2) ∧ Aside0 (Kd.R k80 80 w' w.heap.size (fun _ => True) u10 x10_2) ∧ Aside0 (Kd.R Kd.bool 4 w' w.heap.size (fun _ => True) v197 x12_2) ∧ Aside0 (w'.heap[gb185]? = some (.cells #[(.slice A0_0 l0_0.length c0_0), (.slice A0_1 l0_1.length c0_1), (.slice A0_2 l0_2.length c0_2), (.slice A0_3 l0_3.length c0_3), (.slice A0_4 l0_4.length c0_4), (.slice A0_5 l0_5.length c0_5)] 38 (0, 0))) ∧ Aside0 (Below w.heap.size w w'))
    case atStart => exact ⟨(0), (by rfl), H', ⟨Nat.le_refl _⟩, ⟨by exact HO_10.out⟩, ⟨by exact HO_12.out⟩, ⟨by exact BK185.out⟩, ⟨by repeat ((with_reducible exact HB.out))⟩⟩
    clear H'
    (try clear c17b0)
    obtain ⟨x19_3, rfl, HA, HK3, HO_10, HO_12, BK185, HB⟩ := hrel
    cases gk with
    | zero => exact absurd HA.out (by simp [spec_l07Of.l4])
    | succ k3 =>
     have H := HA.out
     clear HA
     simp only [spec_l07Of.l4] at H
     by_cases c56 : x19_3 < (x12_2.length : Int)
     rotate_left
     ·rw [if_neg c56] at H
      have c56b0 : decide (x19_3 < (x12_2.length : Int)) = false := decide_eq_false c56
      (try (have c56b90 := c56b0; rw [hl10_5] at c56b90))
      (try (have c56b91 := c56b0; rw [hl12_5] at c56b91))
      clear c56
      simp only [Option.some.injEq, Prod.mk.injEq] at H
      obtain ⟨rfl, rfl⟩ := H
      obtain ⟨Ao62, co62, eo62⟩ := Kd.R_slice HO_12.out
      subst eo62
      go_wp2
      go_ret2
      exact ⟨_, by rfl, by exact HO_10.out, by repeat ((with_reducible exact HB.out))⟩
     rw [if_pos c56] at H
     have c56b0 : decide (x19_3 < (x12_2.length : Int)) = true := decide_eq_true c56
     (try (have c56b90 := c56b0; rw [hl10_5] at c56b90))
     (try (have c56b91 := c56b0; rw [hl12_5] at c56b91))
     clear c56
     by_cases c57 : 0 ≤ x19_3
     rotate_left
     ·rw [if_neg c57] at H
      exact absurd H (by simp)
     rw [if_pos c57] at H
     have c57b0 : decide (0 ≤ x19_3) = true := decide_eq_true c57
     clear c57
     obtain ⟨bq58, hbq58⟩ : ∃ b_ : Bool, b_ = (rdOf false x12_2 x19_3) := ⟨_, rfl⟩
     replace H : (if bq58 = true then (spec_l07Of.l4 k3 x10_2 x12_2 (wrap64 (x19_3 + 1))) else (some (x10_2, false))) = some (r1, r2) := by rw [← hbq58] at H; exact H
     have Nbq58 := aM hbq58
     clear hbq58
     by_cases c59 : bq58 = true
     rotate_left
     ·replace c59 := Bool.eq_false_iff.mpr c59
      subst c59
      rw [if_neg (show ¬ (false = true) by decide)] at H
      simp only [Option.some.injEq, Prod.mk.injEq] at H
      obtain ⟨rfl, rfl⟩ := H
      obtain ⟨Ao61, co61, eo61⟩ := Kd.R_slice HO_12.out
      subst eo61
      have p209 : 0 ≤ (x19_3 : Int) := oD ‹_›
      have q209 : x19_3 < (x12_2.length : Int) := oD ‹_›
      obtain ⟨ad209, e209, hx209_0⟩ := Kd.at_bool (Kd.R_reads' HO_12.out).2.2 x19_3 p209 q209
      (try rw [← Nbq58.out] at hx209_0)
      cases e209
      replace p209 := eq_true p209
      replace q209 := eq_true q209
      go_wp2
      go_ret2
      exact ⟨_, by rfl, by exact HO_10.out, by repeat ((with_reducible exact HB.out))⟩
     subst c59
     rw [if_pos rfl] at H
     have H' := aM H
     clear H
     obtain ⟨Ao60, co60, eo60⟩ := Kd.R_slice HO_12.out
     subst eo60
     have p209 : 0 ≤ (x19_3 : Int) := oD ‹_›
     have q209 : x19_3 < (x12_2.length : Int) := oD ‹_›
     obtain ⟨ad209, e209, hx209_0⟩ := Kd.at_bool (Kd.R_reads' HO_12.out).2.2 x19_3 p209 q209
     (try rw [← Nbq58.out] at hx209_0)
     cases e209
     replace p209 := eq_true p209
     replace q209 := eq_true q209
     go_wp2
     go_roundg k3
     case measure => have := HK1.out; have := HK2.out; have := HK3.out; omega
     case rel => exact ⟨(wrap64 (x19_3 + 1)), (by rfl), H', ⟨by have := HK1.out; have := HK2.out; have := HK3.out; omega⟩, ⟨by exact HO_10.out⟩, ⟨by exact HO_12.out⟩, ⟨by exact BK185.out⟩, ⟨by repeat ((with_reducible exact HB.out))⟩⟩
   rw [if_pos c17] at H
   have c17b0 : decide (x13_2 ≤ (l3.length : Int)) = true := decide_eq_true c17
   clear c17
   have H' := aM H
   clear H
   go_wp2
   go_loopg [14] k2 (fun kq v14 w' => ∃ (x10_3 : List (S80)) (x12_3 : List Bool) (x14_3 : Int), v14 = .int .i64 x14_3 ∧ Aside0 (spec_l07Of.l2 kq l1 l2 l3 x10_3 x12_3 x13_2 x14_3 l0_0 l0_1 l0_2 l0_3 l0_4 l0_5 = some (r1, r2)) ∧ Aside0 (kq ≤ k2) ∧ Aside0 (Kd.R k80 80 w' w.heap.size (fun _ => True) u10 x10_3) ∧ Aside0 (Kd.R Kd.bool 4 w' w.heap.size (fun _ => True) v197 x12_3) ∧ Aside0 (w'.heap[gb185]? = some (.cells #[(.slice A0_0 l0_0.length c0_0), (.slice A0_1 l0_1.length c0_1), (.slice A0_2 l0_2.length c0_2), (.slice A0_3 l0_3.length c0_3), (.slice A0_4 l0_4.length c0_4), (.slice A0_5 l0_5.length c0_5)] 38 (0, 0))) ∧ Aside0 (Below w.heap.size w w'))
   case atStart => exact ⟨(x10_2), (x12_2), (0), (by rfl), H', ⟨Nat.le_refl _⟩, ⟨by exact HO_10.out⟩, ⟨by exact HO_12.out⟩, ⟨by exact BK185.out⟩, ⟨by repeat ((with_reducible exact HB.out))⟩⟩
   clear H'
   (try clear c17b0)
   obtain ⟨x10_3, x12_3, x14_3, rfl, HA, HK3, HO_10, HO_12, BK185, HB⟩ := hrel
   cases gk with
   | zero => exact absurd HA.out (by simp [spec_l07Of.l2])
   | succ k3 =>
    have H := HA.out
    clear HA
    simp only [spec_l07Of.l2] at H
    by_cases c18 : x14_3 < (l3.length : Int)
    rotate_left
    ·rw [if_neg c18] at H
     have c18b0 : decide (x14_3 < (l3.length : Int)) = false := decide_eq_false c18
     (try (have c18b90 := c18b0; rw [hl10_5] at c18b90))
     (try (have c18b91 := c18b0; rw [hl12_5] at c18b91))
     clear c18
     have H' := aM H
     clear H
     go_wp2
     go_roundg k3
     case measure => have := HK1.out; have := HK2.out; have := HK3.out; omega
     case rel => exact ⟨(x10_3), (x12_3), (wrap64 (x13_2 + 1)), (by rfl), H', ⟨by have := HK1.out; have := HK2.out; have := HK3.out; omega⟩, ⟨by exact HO_10.out⟩, ⟨by exact HO_12.out⟩, ⟨by exact BK185.out⟩, ⟨by repeat ((with_reducible exact HB.out))⟩⟩
    rw [if_pos c18] at H
    have c18b0 : decide (x14_3 < (l3.length : Int)) = true := decide_eq_true c18
    clear c18
    by_cases c19 : 0 ≤ x14_3
    rotate_left
    ·rw [if_neg c19] at H
     exact absurd H (by simp)
    rw [if_pos c19] at H
    have c19b0 : decide (0 ≤ x14_3) = true := decide_eq_true c19
    clear c19
    have HC20 := aM H
    clear H
    have p199 : 0 ≤ (x14_3 : Int) := oD ‹_›
    have q199 : x14_3 < (l3.length : Int) := oD ‹_›
    obtain ⟨ad199, e199, hx199_0⟩ := Kd.at_int HR3.out x14_3 p199 q199
    cases e199
    replace hx199_0 := swB HB.out hx199_0
    replace p199 := eq_true p199
    replace q199 := eq_true q199
    go_upto_region 14 with (fail)
    go_cut [64] (fun v64 wc => ∃ (kq : Nat) (x64_19 : Bool), v64 = .bool x64_19 ∧ Aside0 (spec_l07Of.j3 kq l1 l2 l3 x10_3 x12_3 x13_2 x14_3 (rd l3 x14_3) x64_19 l0_0 l0_1 l0_2 l0_3 l0_4 l0_5 = some (r1, r2)) ∧ Aside0 (kq ≤ k3) ∧ Aside0 (Kd.R k80 80 wc w.heap.size (fun _ => True) u10 x10_3) ∧ Aside0 (Kd.R Kd.bool 4 wc w.heap.size (fun _ => True) v197 x12_3) ∧ Aside0 (wc.heap[gb185]? = some (.cells #[(.slice A0_0 l0_0.length c0_0), (.slice A0_1 l0_1.length c0_1), (.slice A0_2 l0_2.length c0_2), (.slice A0_3 l0_3.length c0_3), (.slice A0_4 l0_4.length c0_4), (.slice A0_5 l0_5.length c0_5)] 38 (0, 0))) ∧ Aside0 (Below w.heap.size w wc))
    case first =>
     have H := HC20.out
     clear HC20
     by_cases c21 : x14_3 < (x12_3.length : Int)
     rotate_left
     ·rw [if_neg c21] at H
      exact absurd H (by simp)
     rw [if_pos c21] at H
     have c21b0 : decide (x14_3 < (x12_3.length : Int)) = true := decide_eq_true c21
     clear c21
     (skip)
     obtain ⟨bq22, hbq22⟩ : ∃ b_ : Bool, b_ = (rdOf false x12_3 x14_3) := ⟨_, rfl⟩
     replace H : (if bq22 = true then (spec_l07Of.j3 k3 l1 l2 l3 x10_3 x12_3 x13_2 x14_3 (rd l3 x14_3) true l0_0 l0_1 l0_2 l0_3 l0_4 l0_5) else (if (rd l3 x14_3) ≥ 0 then (if 0 ≤ (rd l3 x14_3) then (if (rd l3 x14_3) < (x12_3.length : Int) then (spec_l07Of.j3 k3 l1 l2 l3 x10_3 x12_3 x13_2 x14_3 (rd l3 x14_3) (!(rdOf false x12_3 (rd l3 x14_3))) l0_0 l0_1 l0_2 l0_3 l0_4 l0_5) else (none)) else (none)) else (spec_l07Of.j3 k3 l1 l2 l3 x10_3 x12_3 x13_2 x14_3 (rd l3 x14_3) false l0_0 l0_1 l0_2 l0_3 l0_4 l0_5))) = some (r1, r2) := by rw [← hbq22] at H; exact H
     have Nbq22 := aM hbq22
     clear hbq22
     by_cases c23 : bq22 = true
     ·subst c23
      rw [if_pos rfl] at H
      have H' := aM H
      clear H
      obtain ⟨Ao24, co24, eo24⟩ := Kd.R_slice HO_12.out
      subst eo24
      have p200 : 0 ≤ (x14_3 : Int) := oD ‹_›
      have q200 : x14_3 < (x12_3.length : Int) := oD ‹_›
      obtain ⟨ad200, e200, hx200_0⟩ := Kd.at_bool (Kd.R_reads' HO_12.out).2.2 x14_3 p200 q200
      (try rw [← Nbq22.out] at hx200_0)
      cases e200
      replace p200 := eq_true p200
      replace q200 := eq_true q200
      go_wp2
      go_meet
      case rel => exact ⟨_, (true), (by rfl), H', ⟨by have := HK1.out; have := HK2.out; have := HK3.out; omega⟩, ⟨by exact HO_10.out⟩, ⟨by exact HO_12.out⟩, ⟨by exact BK185.out⟩, ⟨by repeat ((with_reducible exact HB.out))⟩⟩
     replace c23 := Bool.eq_false_iff.mpr c23
     subst c23
     rw [if_neg (show ¬ (false = true) by decide)] at H
     by_cases c25 : (rd l3 x14_3) ≥ 0
     rotate_left
     ·rw [if_neg c25] at H
      have c25b0 : decide (0 ≤ (rd l3 x14_3)) = false := decide_eq_false c25
      clear c25
      have H' := aM H
      clear H
      obtain ⟨Ao29, co29, eo29⟩ := Kd.R_slice HO_12.out
      subst eo29
      have p200 : 0 ≤ (x14_3 : Int) := oD ‹_›
      have q200 : x14_3 < (x12_3.length : Int) := oD ‹_›
      obtain ⟨ad200, e200, hx200_0⟩ := Kd.at_bool (Kd.R_reads' HO_12.out).2.2 x14_3 p200 q200
      (try rw [← Nbq22.out] at hx200_0)
      cases e200
      replace p200 := eq_true p200
      replace q200 := eq_true q200
      go_wp2
      go_meet
      case rel => exact ⟨_, (false), (by rfl), H', ⟨by have := HK1.out; have := HK2.out; have := HK3.out; omega⟩, ⟨by exact HO_10.out⟩, ⟨by exact HO_12.out⟩, ⟨by exact BK185.out⟩, ⟨by repeat ((with_reducible exact HB.out))⟩⟩
     rw [if_pos c25] at H
     have c25b0 : decide (0 ≤ (rd l3 x14_3)) = true := decide_eq_true c25
     clear c25
     by_cases c26 : 0 ≤ (rd l3 x14_3)
     rotate_left
     ·rw [if_neg c26] at H
      exact absurd H (by simp)
     rw [if_pos c26] at H
     have c26b0 : decide (0 ≤ (rd l3 x14_3)) = true := decide_eq_true c26
     clear c26
     by_cases c27 : (rd l3 x14_3) < (x12_3.length : Int)
     rotate_left
     ·rw [if_neg c27] at H
      exact absurd H (by simp)
     rw [if_pos c27] at H
     have c27b0 : decide ((rd l3 x14_3) < (x12_3.length : Int)) = true := decide_eq_true c27
     clear c27
     have H' := aM H
     clear H
     obtain ⟨Ao28, co28, eo28⟩ := Kd.R_slice HO_12.out
     subst eo28
     have p200 : 0 ≤ (x14_3 : Int) := oD ‹_›
     have q200 : x14_3 < (x12_3.length : Int) := oD ‹_›
     obtain ⟨ad200, e200, hx200_0⟩ := Kd.at_bool (Kd.R_reads' HO_12.out).2.2 x14_3 p200 q200
     (try rw [← Nbq22.out] at hx200_0)
     cases e200
     replace p200 := eq_true p200
     replace q200 := eq_true q200
     have p201 : 0 ≤ ((rd l3 x14_3) : Int) := oD ‹_›
     have q201 : (rd l3 x14_3) < (x12_3.length : Int) := oD ‹_›
     obtain ⟨ad201, e201, hx201_0⟩ := Kd.at_bool (Kd.R_reads' HO_12.out).2.2 (rd l3 x14_3) p201 q201
     (try rw [← Nbq22.out] at hx201_0)
     obtain rfl : ad200 = ad201 := (by injection e201)
     replace p201 := eq_true p201
     replace q201 := eq_true q201
     go_wp2
     go_meet
     case rel => exact ⟨_, (!(rdOf false x12_3 (rd l3 x14_3))), (by rfl), H', ⟨by have := HK1.out; have := HK2.out; have := HK3.out; omega⟩, ⟨by exact HO_10.out⟩, ⟨by exact HO_12.out⟩, ⟨by exact BK185.out⟩, ⟨by repeat ((with_reducible exact HB.out))⟩⟩
    clear HC20 c18b0 c19b0 hx199_0 p199 q199
    obtain ⟨kq, x64_19, rfl, HA, HJ19, HO_10, HO_12, BK185, HB⟩ := hcut
    cases kq with
    | zero => exact absurd HA.out (by simp [spec_l07Of.j3])
    | succ kj19 =>
     have H := HA.out
     clear HA
     simp only [spec_l07Of.j3] at H
     by_cases c30 : x64_19 = true
     ·subst c30
      rw [if_pos rfl] at H
      have H' := aM H
      clear H
      go_wp2
      go_roundg kj19
      case measure => have := HK1.out; have := HK2.out; have := HK3.out; have := HJ19.out; omega
      case rel => exact ⟨(x10_3), (x12_3), (wrap64 (x14_3 + 1)), (by rfl), H', ⟨by have := HK1.out; have := HK2.out; have := HK3.out; have := HJ19.out; omega⟩, ⟨by exact HO_10.out⟩, ⟨by exact HO_12.out⟩, ⟨by exact BK185.out⟩, ⟨by repeat ((with_reducible exact HB.out))⟩⟩
     replace c30 := Bool.eq_false_iff.mpr c30
     subst c30
     rw [if_neg (show ¬ (false = true) by decide)] at H
     by_cases c31 : 0 ≤ x14_3
     rotate_left
     ·rw [if_neg c31] at H
      exact absurd H (by simp)
     rw [if_pos c31] at H
     have c31b0 : decide (0 ≤ x14_3) = true := decide_eq_true c31
     clear c31
     by_cases c32 : x14_3 < (x12_3.length : Int)
     rotate_left
     ·rw [if_neg c32] at H
      exact absurd H (by simp)
     rw [if_pos c32] at H
     have c32b0 : decide (x14_3 < (x12_3.length : Int)) = true := decide_eq_true c32
     clear c32
     obtain ⟨y202, hy202⟩ : ∃ y_ : List Bool, y_ = (x12_3.set (x14_3 : Int).toNat true) := ⟨_, rfl⟩
     replace H : (if (rd l3 x14_3) = (-3) then (spec_l07Of.l2 kj19 l1 l2 l3 x10_3 y202 x13_2 (wrap64 (x14_3 + 1)) l0_0 l0_1 l0_2 l0_3 l0_4 l0_5) else ((spec_l07Candidates.f kj19 l0_0 l0_1 l0_2 l0_3 l0_4 l0_5 x14_3 l1 l2 x10_3).bind fun t203 => (spec_l07Of.l3 kj19 l1 l2 l3 x10_3 y202 x13_2 x14_3 (rd l3 x14_3) false t203 0 l0_0 l0_1 l0_2 l0_3 l0_4 l0_5))) = some (r1, r2) := by (have H2_ := (Option.bind_some _ _).symm.trans H; rw [hy202]; with_reducible exact H2_)
     have Ny202 := aM hy202
     clear hy202
     by_cases c34 : (rd l3 x14_3) = (-3)
     ·rw [if_pos c34] at H
      have c34b0 : ((rd l3 x14_3) == (-3)) = true := beq_iff_eq.mpr c34
      have c34b1 : ((rd l3 x14_3) != (-3)) = false := bne_eq_false_iff_eq.mpr c34
      clear c34
      have H' := aM H
      clear H
      have p33 : 0 ≤ (x14_3 : Int) := oD ‹_›
      have q33 : (x14_3 : Int) < ((x12_3.length : Int) : Int) := oD ‹_›
      obtain ⟨go33, co33, eo33, gb33, gl33, cl33, HG33⟩ := Kd.R_form HO_12.out (by omega)
      (cases eo33)
      have GB33 := aM gb33
      have GG33 := aM HG33
      clear gb33 gl33 HG33
      obtain ⟨hx33_0, hf33_0⟩ := Kd.R_celln false HO_12.out (x14_3 : Int) p33 q33
      replace p33 := eq_true p33
      replace q33 := eq_true q33
      have HP35 := Kd.R_putg HO_12.out (x14_3 : Int) true
      go_wp2_with (((with_reducible refine gate_store (t := 4) (p := 67) rfl ?_); refine store_event (t := 4) (p := 67) (v := ?vo_w36) (w1 := (wc.setCell ⟨go33, (x14_3 : Int).toNat, none⟩ (.bool true))) ?hg ?ho ?hn ?hr ?_; (case ho => rfl); (case hg => rfl); (case hn => rfl); (case hr => (go_simp; done)); intro w36 hw; have hg : wc.grownBy w36 (some go33) := (by rw [hw]; exact HP35.2); have hp_ : Kd.R Kd.bool 4 w36 w.heap.size (fun _ => True) (.slice (some ⟨go33, 0, none⟩) x12_3.length co33) y202 := (by rw [hw, Ny202.out]; exact HP35.1); clear HP35; replace HO_10 := aM (Kd.R_over' (v := (.slice (some ⟨go33, 0, none⟩) x12_3.length co33)) HO_10.out (Kd.R_typed HO_12.out) (by decide) hg); replace BK185 := aM (blk_grown BK185.out hg (Kd.R_ne HO_12.out BK185.out (by decide))); replace HO_12 := aM (hp_); replace HB := aM ((by rw [hw]; exact below_set (HB.out) GB33.out : Below w.heap.size w w36)); clear hg hw hp_))
      go_roundg kj19
      case measure => have := HK1.out; have := HK2.out; have := HK3.out; have := HJ19.out; omega
      case rel => exact ⟨(x10_3), (y202), (wrap64 (x14_3 + 1)), (by rfl), H', ⟨by have := HK1.out; have := HK2.out; have := HK3.out; have := HJ19.out; omega⟩, ⟨by exact HO_10.out⟩, ⟨by exact HO_12.out⟩, ⟨by exact BK185.out⟩, ⟨by repeat ((with_reducible exact HB.out))⟩⟩
     rw [if_neg c34] at H
     have c34b0 : ((rd l3 x14_3) == (-3)) = false := beq_eq_false_iff_ne.mpr c34
     have c34b1 : ((rd l3 x14_3) != (-3)) = true := bne_iff_ne.mpr c34
     replace H := bS H
     obtain ⟨t203, A370, H⟩ := H
     replace H : (spec_l07Of.l3 kj19 l1 l2 l3 x10_3 y202 x13_2 x14_3 (rd l3 x14_3) false t203 0 l0_0 l0_1 l0_2 l0_3 l0_4 l0_5) = some (r1, r2) := H
     have A37 := aM A370
     clear A370
     have H' := aM H
     clear H
     have p33 : 0 ≤ (x14_3 : Int) := oD ‹_›
     have q33 : (x14_3 : Int) < ((x12_3.length : Int) : Int) := oD ‹_›
     obtain ⟨go33, co33, eo33, gb33, gl33, cl33, HG33⟩ := Kd.R_form HO_12.out (by omega)
     (cases eo33)
     have GB33 := aM gb33
     have GG33 := aM HG33
     clear gb33 gl33 HG33
     obtain ⟨hx33_0, hf33_0⟩ := Kd.R_celln false HO_12.out (x14_3 : Int) p33 q33
     replace p33 := eq_true p33
     replace q33 := eq_true q33
     have HP38 := Kd.R_putg HO_12.out (x14_3 : Int) true
     go_wp2_with (first | ((with_reducible refine gate_store (t := 4) (p := 67) rfl ?_); refine store_event (t := 4) (p := 67) (v := ?vo_w39) (w1 := (wc.setCell ⟨go33, (x14_3 : Int).toNat, none⟩ (.bool true))) ?hg ?ho ?hn ?hr ?_; (case ho => rfl); (case hg => rfl); (case hn => rfl); (case hr => (go_simp; done)); intro w39 hw; have hg : wc.grownBy w39 (some go33) := (by rw [hw]; exact HP38.2); have hp_ : Kd.R Kd.bool 4 w39 w.heap.size (fun _ => True) (.slice (some ⟨go33, 0, none⟩) x12_3.length co33) y202 := (by rw [hw, Ny202.out]; exact HP38.1); clear HP38; replace HO_10 := aM (Kd.R_over' (v := (.slice (some ⟨go33, 0, none⟩) x12_3.length co33)) HO_10.out (Kd.R_typed HO_12.out) (by decide) hg); replace BK185 := aM (blk_grown BK185.out hg (Kd.R_ne HO_12.out BK185.out (by decide))); replace HO_12 := aM (hp_); replace HB := aM ((by rw [hw]; exact below_set (HB.out) GB33.out : Below w.heap.size w w39)); clear hg hw hp_; obtain ⟨hcz40_0, hcz40_1, hcz40_2, hcz40_3, hcz40_4, hcz40_5⟩ := swc6 BK185.out; obtain ⟨hfz40_0, hfz40_1, hfz40_2, hfz40_3, hfz40_4, hfz40_5⟩ := swf6 BK185.out; obtain ⟨Ao41, co41, eo41⟩ := Kd.R_slice HO_10.out; subst eo41) | (go_at_call 70; (with_reducible refine (spec_l07Candidates.calls kj19 _ _ l0_0 _ _ l0_1 _ _ l0_2 _ _ l0_3 _ _ l0_4 _ _ l0_5 x14_3 _ _ l1 _ _ l2 _ _ x10_3 t203 _ (Kd.C_below HR0_0.out HB.out) HC0_0.out (Kd.C_below HR0_1.out HB.out) HC0_1.out (Kd.C_below HR0_2.out HB.out) HC0_2.out (Kd.C_below HR0_3.out HB.out) HC0_3.out (Kd.C_below HR0_4.out HB.out) HC0_4.out (Kd.C_below HR0_5.out HB.out) HC0_5.out (Kd.C_below HR1.out HB.out) HC1.out (Kd.C_below HR2.out HB.out) HC2.out ((Kd.R_reads' HO_10.out).2.2) ((Kd.R_reads' HO_10.out).2.1) A37.out).mono ?_); rintro e w42 ⟨v204, rfl, ho0, hb⟩; replace HO_12 := aM (Kd.R_below HO_12.out hb); have HO205 := aM (Kd.R_lower (Kd.R_new' ho0 (Kd.R_lt HO_10.out)) (below_size HB.out)); replace HO_10 := aM (Kd.R_elder' HO_10.out (Kd.R_base ho0) hb); replace BK185 := aK BK185 hb; replace HB := aB HB hb; (try clear hb); (try clear ho0)))
     go_loopg [16, 18] kj19 (fun kq v16 v18 w' => ∃ (x10_5 : List (S80)) (x16_5 : Bool) (x18_5 : Int), v16 = .bool x16_5 ∧ v18 = .int .i64 x18_5 ∧ Aside0 (spec_l07Of.l3 kq l1 l2 l3 x10_5 y202 x13_2 x14_3 (rd l3 x14_3) x16_5 t203 x18_5 l0_0 l0_1 l0_2 l0_3 l0_4 l0_5 = some (r1, r2)) ∧ Aside0 (kq ≤ kj19) ∧ Aside0 (Kd.R k80 80 w' w.heap.size (fun k_ => some k_ ≠ (v204 : Value).ownBlock) (.slice Ao41 x10_3.length co41) x10_5) ∧ Aside0 (Kd.R Kd.bool 4 w' w.heap.size (fun _ => True) (.slice (some ⟨go33, 0, none⟩) x12_3.length co33) y202) ∧ Aside0 (Kd.R k80 80 w' w.heap.size (fun k_ => some k_ ≠ ((.slice Ao41 x10_3.length co41) : Value).ownBlock) v204 t203) ∧ Aside0 (w'.heap[gb185]? = some (.cells #[(.slice A0_0 l0_0.length c0_0), (.slice A0_1 l0_1.length c0_1), (.slice A0_2 l0_2.length c0_2), (.slice A0_3 l0_3.length c0_3), (.slice A0_4 l0_4.length c0_4), (.slice A0_5 l0_5.length c0_5)] 38 (0, 0))) ∧ Aside0 (Below w.heap.size w w'))
     case atStart => exact ⟨(x10_3), (false), (0), (by rfl), (by rfl), H', ⟨Nat.le_refl _⟩, ⟨by exact Kd.R_mono HO_10.out (fun _ hk => hk.2)⟩, ⟨by exact HO_12.out⟩, ⟨by exact Kd.R_mono HO205.out (fun _ hk => hk.2)⟩, ⟨by exact BK185.out⟩, ⟨by repeat ((with_reducible exact HB.out))⟩⟩
     clear H'
     clear c31b0 c32b0 p33 q33 c34 c34b0 c34b1 hcz40_0 hcz40_1 hcz40_2 hcz40_3 hcz40_4 hcz40_5 hfz40_0 hfz40_1 hfz40_2 hfz40_3 hfz40_4 hfz40_5 hx33_0
     obtain ⟨x10_5, x16_5, x18_5, rfl, rfl, HA, HK5, HO_10, HO_12, HO_17, BK185, HB⟩ := hrel
     have hl10_5 := (Kd.R_reads' HO_10.out).1
     rw [hl10_5] at HO_10
     (try simp only [hl10_5])
     (try simp only [hl10_5] at BK185)
     (try simp only [hl10_5] at HO_12)
     (try simp only [hl10_5] at HO_17)
     have hl12_5 := (Kd.R_reads' HO_12.out).1
     rw [hl12_5] at HO_12
     (try simp only [hl12_5])
     (try simp only [hl12_5] at BK185)
     (try simp only [hl12_5] at HO_10)
     (try simp only [hl12_5] at HO_17)
     cases gk with
     | zero => exact absurd HA.out (by simp [spec_l07Of.l3])
     | succ k5 =>
      have H := HA.out
      clear HA
      simp only [spec_l07Of.l3] at H
      by_cases c43 : x18_5 < (t203.length : Int)
      rotate_left
      ·rw [if_neg c43] at H
       have c43b0 : decide (x18_5 < (t203.length : Int)) = false := decide_eq_false c43
       (try (have c43b90 := c43b0; rw [hl10_5] at c43b90))
       (try (have c43b91 := c43b0; rw [hl12_5] at c43b91))
       clear c43
       by_cases c53 : x16_5 = true
       rotate_left
       ·replace c53 := Bool.eq_false_iff.mpr c53
        subst c53
        rw [if_neg (show ¬ (false = true) by decide)] at H
        simp only [Option.some.injEq, Prod.mk.injEq] at H
        obtain ⟨rfl, rfl⟩ := H
        obtain ⟨Ao55, co55, eo55⟩ := Kd.R_slice HO_17.out
        subst eo55
        go_wp2
        go_ret2
        exact ⟨_, by rfl, by exact Kd.R_mono HO_10.out (fun _ hk => trivial), by repeat ((with_reducible exact HB.out))⟩
       subst c53
       rw [if_pos rfl] at H
       have H' := aM H
       clear H
       obtain ⟨Ao54, co54, eo54⟩ := Kd.R_slice HO_17.out
       subst eo54
       go_wp2
       (try simp only [← hl10_5, ← hl12_5])
       go_roundg k5
       case measure => have := HK1.out; have := HK2.out; have := HK3.out; have := HJ19.out; have := HK5.out; omega
       case rel => exact ⟨(x10_5), (y202), (wrap64 (x14_3 + 1)), (by rfl), H', ⟨by have := HK1.out; have := HK2.out; have := HK3.out; have := HJ19.out; have := HK5.out; omega⟩, ⟨by (try simp only [hl10_5]); (try simp only [hl12_5]); exact Kd.R_mono HO_10.out (fun _ hk => trivial)⟩, ⟨by (try simp only [hl10_5]); (try simp only [hl12_5]); exact HO_12.out⟩, ⟨by (try simp only [hl10_5]); (try simp only [hl12_5]); exact BK185.out⟩, ⟨by repeat ((with_reducible exact HB.out))⟩⟩
      rw [if_pos c43] at H
      have c43b0 : decide (x18_5 < (t203.length : Int)) = true := decide_eq_true c43
      (try (have c43b90 := c43b0; rw [hl10_5] at c43b90))
      (try (have c43b91 := c43b0; rw [hl12_5] at c43b91))
      clear c43
      by_cases c44 : 0 ≤ x18_5
      rotate_left
      ·rw [if_neg c44] at H
       exact absurd H (by simp)
      rw [if_pos c44] at H
      have c44b0 : decide (0 ≤ x18_5) = true := decide_eq_true c44
      clear c44
      by_cases c45 : ((rd_T80 t203 x18_5).f0) = (rd l3 x14_3)
      rotate_left
      ·rw [if_neg c45] at H
       have c45b0 : (((rd_T80 t203 x18_5).f0) == (rd l3 x14_3)) = false := beq_eq_false_iff_ne.mpr c45
       have c45b1 : (((rd_T80 t203 x18_5).f0) != (rd l3 x14_3)) = true := bne_iff_ne.mpr c45
       have H' := aM H
       clear H
       obtain ⟨Ao52, co52, eo52⟩ := Kd.R_slice HO_17.out
       subst eo52
       have p206 : 0 ≤ (x18_5 : Int) := oD ‹_›
       have q206 : x18_5 < (t203.length : Int) := oD ‹_›
       obtain ⟨ad206, e206, hx206_0, hx206_1, hx206_2, hx206_3⟩ := at_T80 (Kd.R_reads' HO_17.out).2.2 x18_5 p206 q206
       cases e206
       replace p206 := eq_true p206
       replace q206 := eq_true q206
       go_wp2
       (try simp only [← hl10_5, ← hl12_5])
       go_roundg k5
       case measure => have := HK1.out; have := HK2.out; have := HK3.out; have := HJ19.out; have := HK5.out; omega
       case rel => exact ⟨(x10_5), (x16_5), (wrap64 (x18_5 + 1)), (by rfl), (by rfl), H', ⟨by have := HK1.out; have := HK2.out; have := HK3.out; have := HJ19.out; have := HK5.out; omega⟩, ⟨by (try simp only [hl10_5]); (try simp only [hl12_5]); exact HO_10.out⟩, ⟨by (try simp only [hl10_5]); (try simp only [hl12_5]); exact HO_12.out⟩, ⟨by (try simp only [hl10_5]); (try simp only [hl12_5]); exact HO_17.out⟩, ⟨by (try simp only [hl10_5]); (try simp only [hl12_5]); exact BK185.out⟩, ⟨by repeat ((with_reducible exact HB.out))⟩⟩
      rw [if_pos c45] at H
      have c45b0 : (((rd_T80 t203 x18_5).f0) == (rd l3 x14_3)) = true := beq_iff_eq.mpr c45
      have c45b1 : (((rd_T80 t203 x18_5).f0) != (rd l3 x14_3)) = false := bne_eq_false_iff_eq.mpr c45
      clear c45
      by_cases c46 : 0 ≤ x14_3
      rotate_left
      ·rw [if_neg c46] at H
       exact absurd H (by simp)
      rw [if_pos c46] at H
      have c46b0 : decide (0 ≤ x14_3) = true := decide_eq_true c46
      clear c46
      by_cases c47 : x14_3 < (x10_5.length : Int)
      rotate_left
      ·rw [if_neg c47] at H
       exact absurd H (by simp)
      rw [if_pos c47] at H
      have c47b0 : decide (x14_3 < (x10_5.length : Int)) = true := decide_eq_true c47
      (try (have c47b90 := c47b0; rw [hl10_5] at c47b90))
      (try (have c47b91 := c47b0; rw [hl12_5] at c47b91))
      clear c47
      obtain ⟨y208, hy208⟩ : ∃ y_ : List (S80), y_ = (x10_5.set (x14_3 : Int).toNat (⟨(rd_T80 t203 x18_5).f0, (rd_T80 t203 x18_5).f1, (rd_T80 t203 x18_5).f2, (rd_T80 t203 x18_5).f3⟩ : S80)) := ⟨_, rfl⟩
      replace H : (spec_l07Of.l3 k5 l1 l2 l3 y208 y202 x13_2 x14_3 (rd l3 x14_3) true t203 (wrap64 (x18_5 + 1)) l0_0 l0_1 l0_2 l0_3 l0_4 l0_5) = some (r1, r2) := by (rw [hy208]; with_reducible exact H)
      have Ny208 := aM hy208
      clear hy208
      have H' := aM H
      clear H
      obtain ⟨Ao49, co49, eo49⟩ := Kd.R_slice HO_17.out
      subst eo49
      have p206 : 0 ≤ (x18_5 : Int) := oD ‹_›
      have q206 : x18_5 < (t203.length : Int) := oD ‹_›
      obtain ⟨ad206, e206, hx206_0, hx206_1, hx206_2, hx206_3⟩ := at_T80 (Kd.R_reads' HO_17.out).2.2 x18_5 p206 q206
      cases e206
      replace p206 := eq_true p206
      replace q206 := eq_true q206
      have p207 : 0 ≤ (x18_5 : Int) := oD ‹_›
      have q207 : x18_5 < (t203.length : Int) := oD ‹_›
      obtain ⟨ad207, e207, hx207_0, hx207_1, hx207_2, hx207_3⟩ := at_T80 (Kd.R_reads' HO_17.out).2.2 x18_5 p207 q207
      obtain rfl : ad206 = ad207 := (by injection e207)
      replace p207 := eq_true p207
      replace q207 := eq_true q207
      have p48 : 0 ≤ (x14_3 : Int) := oD ‹_›
      have q48 : (x14_3 : Int) < ((x10_5.length : Int) : Int) := oD ‹_›
      obtain ⟨go48, co48, eo48, gb48, gl48, cl48, HG48⟩ := Kd.R_form HO_10.out (by omega)
      (cases eo48)
      have GB48 := aM gb48
      have GG48 := aM HG48
      clear gb48 gl48 HG48
      obtain ⟨ce48, hcl48, hM48, hcc48, hfr48⟩ := Kd.R_elem HO_10.out z80 (x14_3 : Int) p48 q48
      obtain rfl := k80_openM hM48
      have hx48_0 : wr.cell? ⟨go48, (x14_3 : Int).toNat * 4, none⟩ = some (.int .i64 ((rd_T80 x10_5 x14_3).f0)) := hcc48 0 _ rfl
      have hx48_1 : wr.cell? ⟨go48, (x14_3 : Int).toNat * 4 + 1, none⟩ = some (.int .i64 ((rd_T80 x10_5 x14_3).f1)) := hcc48 1 _ rfl
      have hx48_2 : wr.cell? ⟨go48, (x14_3 : Int).toNat * 4 + 2, none⟩ = some (.int .i64 ((rd_T80 x10_5 x14_3).f2)) := hcc48 2 _ rfl
      have hx48_3 : wr.cell? ⟨go48, (x14_3 : Int).toNat * 4 + 3, none⟩ = some (.bool ((rd_T80 x10_5 x14_3).f3)) := hcc48 3 _ rfl
      have hf48_0 : wr.frozen? ⟨go48, (x14_3 : Int).toNat * 4, none⟩ = false := hfr48 0
      have hf48_1 : wr.frozen? ⟨go48, (x14_3 : Int).toNat * 4 + 1, none⟩ = false := hfr48 1
      have hf48_2 : wr.frozen? ⟨go48, (x14_3 : Int).toNat * 4 + 2, none⟩ = false := hfr48 2
      have hf48_3 : wr.frozen? ⟨go48, (x14_3 : Int).toNat * 4 + 3, none⟩ = false := hfr48 3
      clear hcl48 hcc48 hfr48; (try clear hM48)
      replace p48 := eq_true p48
      replace q48 := eq_true q48
      have HX50 := aM (show Kd.R k80 80 wr w.heap.size (fun k_ => some k_ ≠ (.slice (some ad206) t203.length co49 : Value).ownBlock) (.slice (some ⟨go48, 0, none⟩) x10_5.length co41) x10_5 from HO_10.out)
      obtain ⟨ce50, hcl50, hM50, hcc50, hfr50⟩ := Kd.R_elem HX50.out z80 (x14_3 : Int) (oD ‹_›) (by have h_ : (x14_3 : Int) < ((x10_5.length : Int) : Int) := oD ‹_›; exact h_)
      obtain rfl := k80_openM hM50
      have HP50 := Kd.R_seg HX50.out (x14_3 : Int) (oD ‹_›) (by have h_ : (x14_3 : Int) < ((x10_5.length : Int) : Int) := oD ‹_›; exact h_) (seg := [.int .i64 ((rd_T80 t203 x18_5).f0), .int .i64 ((rd_T80 t203 x18_5).f1), .int .i64 ((rd_T80 t203 x18_5).f2), .bool ((rd_T80 t203 x18_5).f3)]) (j := 0) hcl50 hcc50 (show 4 ≤ 4 from by decide) (x' := (⟨(rd_T80 t203 x18_5).f0, (rd_T80 t203 x18_5).f1, (rd_T80 t203 x18_5).f2, (rd_T80 t203 x18_5).f3⟩ : S80)) (k80_mkM _ _ _ (⟨(rd_T80 t203 x18_5).f0, (rd_T80 t203 x18_5).f1, (rd_T80 t203 x18_5).f2, (rd_T80 t203 x18_5).f3⟩ : S80) ) (fun _ hk => hk)
      have hx50_0 := hcc50 0 _ rfl
      (try simp only [show (k80).sz = 4 from rfl, Nat.mul_one, Nat.add_zero] at hx50_0)
      have hf50_0 := hfr50 0
      (try simp only [show (k80).sz = 4 from rfl, Nat.mul_one, Nat.add_zero] at hf50_0)
      have hx50_1 := hcc50 1 _ rfl
      (try simp only [show (k80).sz = 4 from rfl, Nat.mul_one, Nat.add_zero] at hx50_1)
      have hf50_1 := hfr50 1
      (try simp only [show (k80).sz = 4 from rfl, Nat.mul_one, Nat.add_zero] at hf50_1)
      have hx50_2 := hcc50 2 _ rfl
      (try simp only [show (k80).sz = 4 from rfl, Nat.mul_one, Nat.add_zero] at hx50_2)
      have hf50_2 := hfr50 2
      (try simp only [show (k80).sz = 4 from rfl, Nat.mul_one, Nat.add_zero] at hf50_2)
      have hx50_3 := hcc50 3 _ rfl
      (try simp only [show (k80).sz = 4 from rfl, Nat.mul_one, Nat.add_zero] at hx50_3)
      have hf50_3 := hfr50 3
      (try simp only [show (k80).sz = 4 from rfl, Nat.mul_one, Nat.add_zero] at hf50_3)
      clear hcl50 hcc50 hfr50; (try clear hM50)
      go_wp2_with (((with_reducible refine gate_store (t := 80) (p := 95) rfl ?_); refine store_event (t := 80) (p := 95) (v := ?vo_w51) (w1 := ((((wr.setCell ⟨go48, (x14_3 : Int).toNat * 4, none⟩ (.int .i64 ((rd_T80 t203 x18_5).f0))).setCell ⟨go48, (x14_3 : Int).toNat * 4 + 1, none⟩ (.int .i64 ((rd_T80 t203 x18_5).f1))).setCell ⟨go48, (x14_3 : Int).toNat * 4 + 2, none⟩ (.int .i64 ((rd_T80 t203 x18_5).f2))).setCell ⟨go48, (x14_3 : Int).toNat * 4 + 3, none⟩ (.bool ((rd_T80 t203 x18_5).f3)))) ?hg ?ho ?hn ?hr ?_; (case ho => rfl); (case hg => rfl); (case hn => rfl); (case hr => (go_simp; done)); intro w51 hw; have hg : wr.grownBy w51 (some go48) := (by rw [hw]; exact HP50.2); have hp_ : Kd.R k80 80 w51 w.heap.size (fun k_ => some k_ ≠ (.slice (some ad206) t203.length co49 : Value).ownBlock) (.slice (some ⟨go48, 0, none⟩) x10_5.length co41) y208 := (by rw [hw, Ny208.out]; exact HP50.1); clear HP50; replace HO_12 := aM (Kd.R_over' (v := (.slice (some ⟨go48, 0, none⟩) x10_5.length co41)) HO_12.out (Kd.R_typed HO_10.out) (by decide) hg); replace HO_17 := aM (Kd.R_after (v := (.slice (some ⟨go48, 0, none⟩) x10_5.length co41)) (v1 := (.slice (some ⟨go48, 0, none⟩) x10_5.length co41)) (ok := (fun _ => True)) (by exact Kd.R_mono HO_17.out (fun _ hk => ⟨trivial, hk⟩)) hg (.inl rfl)); replace BK185 := aM (blk_grown BK185.out hg (Kd.R_ne HO_10.out BK185.out (by decide))); replace HO_10 := aM (hp_); replace HB := aM ((by rw [hw]; exact below_set (below_set (below_set (below_set (HB.out) GB48.out) GB48.out) GB48.out) GB48.out : Below w.heap.size w w51)); clear hg hw hp_))
      (try simp only [← hl10_5, ← hl12_5])
      go_roundg k5
      case measure => have := HK1.out; have := HK2.out; have := HK3.out; have := HJ19.out; have := HK5.out; omega
      case rel => exact ⟨(y208), (true), (wrap64 (x18_5 + 1)), (by rfl), (by rfl), H', ⟨by have := HK1.out; have := HK2.out; have := HK3.out; have := HJ19.out; have := HK5.out; omega⟩, ⟨by (try simp only [hl10_5]); (try simp only [hl12_5]); exact HO_10.out⟩, ⟨by (try simp only [hl10_5]); (try simp only [hl12_5]); exact HO_12.out⟩, ⟨by (try simp only [hl10_5]); (try simp only [hl12_5]); exact Kd.R_mono HO_17.out (fun _ hk => hk.2)⟩, ⟨by (try simp only [hl10_5]); (try simp only [hl12_5]); exact BK185.out⟩, ⟨by repeat ((with_reducible exact HB.out))⟩⟩
def spec_RoutesOf.l0 : Nat → List Int → List Bool → List Int → Int → List ByteArray → List (S92) → List Int → List Int → List (S95) → List (S97) → Option ((List (S80)) × Int)
 | 0, _, _, _, _, _, _, _, _, _, _ => none
 | k + 1, x1, x2, x3, x11, x211000, x211001, x211002, x211003, x211004, x211005 => if x11 < (x3.length : Int) then (if 0 ≤ x11 then ((spec_l01In.f (rd x3 x11) (-3) (wrap64 ((x211000.length : Int) - 1))).bind fun t222 => (if t222 = true then (spec_RoutesOf.l0 k x1 x2 x3 (wrap64 (x11 + 1)) x211000 x211001 x211002 x211003 x211004 x211005) else (some ((([] : List (S80))), 5)))) else (none)) else ((spec_l07Of.f k x211000 x211001 x211002 x211003 x211004 x211005 x1 x2 x3).bind fun bt226 => (if bt226.2 = true then (some (bt226.1, 0)) else (some ((([] : List (S80))), 6))))
def spec_RoutesOf.f (k : Nat) (l0_0 : List ByteArray) (l0_1 : List (S92)) (l0_2 : List Int) (l0_3 : List Int) (l0_4 : List (S95)) (l0_5 : List (S97)) (l1 : List Int) (l2 : List Bool) (l3 : List Int) : Option ((List (S80)) × Int) := if (l3.length : Int) > 4096 then (some ((([] : List (S80))), 2)) else ((spec_l07Env.f k l0_0 l0_1 l0_2 l0_3 l0_4 l0_5 l1 l2).bind fun t214 => (if t214 = 0 then (if (l3.length : Int) = (l0_0.length : Int) then (spec_RoutesOf.l0 k l1 l2 l3 0 l0_0 l0_1 l0_2 l0_3 l0_4 l0_5) else (some ((([] : List (S80))), 5))) else (some ((([] : List (S80))), t214))))
theorem spec_RoutesOf.calls (k : Nat) (A0_0 : Option Addr) (c0_0 : Nat) (l0_0 : List ByteArray) (A0_1 : Option Addr) (c0_1 : Nat) (l0_1 : List (S92)) (A0_2 : Option Addr) (c0_2 : Nat) (l0_2 : List Int) (A0_3 : Option Addr) (c0_3 : Nat) (l0_3 : List Int) (A0_4 : Option Addr) (c0_4 : Nat) (l0_4 : List (S95)) (A0_5 : Option Addr) (c0_5 : Nat) (l0_5 : List (S97)) (A1 : Option Addr) (c1 : Nat) (l1 : List Int) (A2 : Option Addr) (c2 : Nat) (l2 : List Bool) (A3 : Option Addr) (c3 : Nat) (l3 : List Int) (r1 : List (S80)) (r2 : Int) (w : World) (hr0_0 : Kd.C Kd.string w A0_0 l0_0.length l0_0) (hc0_0 : l0_0.length ≤ c0_0) (hr0_1 : Kd.C k92 w A0_1 l0_1.length l0_1) (hc0_1 : l0_1.length ≤ c0_1) (hr0_2 : Kd.C (Kd.int .i64) w A0_2 l0_2.length l0_2) (hc0_2 : l0_2.length ≤ c0_2) (hr0_3 : Kd.C (Kd.int .i64) w A0_3 l0_3.length l0_3) (hc0_3 : l0_3.length ≤ c0_3) (hr0_4 : Kd.C k95 w A0_4 l0_4.length l0_4) (hc0_4 : l0_4.length ≤ c0_4) (hr0_5 : Kd.C k97 w A0_5 l0_5.length l0_5) (hc0_5 : l0_5.length ≤ c0_5) (hr1 : Kd.C (Kd.int .i64) w A1 l1.length l1) (hc1 : l1.length ≤ c1) (hr2 : Kd.C Kd.bool w A2 l2.length l2) (hc2 : l2.length ≤ c2) (hr3 : Kd.C (Kd.int .i64) w A3 l3.length l3) (hc3 : l3.length ≤ c3) (h : spec_RoutesOf.f k l0_0 l0_1 l0_2 l0_3 l0_4 l0_5 l1 l2 l3 = some (r1, r2)) :
  Calls Try.prog 9 #[.agg #[.slice A0_0 l0_0.length c0_0, .slice A0_1 l0_1.length c0_1, .slice A0_2 l0_2.length c0_2, .slice A0_3 l0_3.length c0_3, .slice A0_4 l0_4.length c0_4, .slice A0_5 l0_5.length c0_5], .slice A1 l1.length c1, .slice A2 l2.length c2, .slice A3 l3.length c3] w fun e w' => ∃ v0_ : Value, e = .returned (.tuple #[v0_, .int .i64 r2]) ∧ Kd.R k80 80 w' w.heap.size (fun _ => True) v0_ r1 ∧ Below w.heap.size w w' := by
 have hu38 := Try.underlying38
 obtain ⟨HR0_0, HC0_0, HR0_1, HC0_1, HR0_2, HC0_2, HR0_3, HC0_3, HR0_4, HC0_4, HR0_5, HC0_5⟩ := as12 hr0_0 hc0_0 hr0_1 hc0_1 hr0_2 hc0_2 hr0_3 hc0_3 hr0_4 hc0_4 hr0_5 hc0_5
 clear hr0_0 hc0_0 hr0_1 hc0_1 hr0_2 hc0_2 hr0_3 hc0_3 hr0_4 hc0_4 hr0_5 hc0_5
 have HR1 := aM hr1
 have HC1 := aM hc1
 clear hr1 hc1
 have HR2 := aM hr2
 have HC2 := aM hc2
 clear hr2 hc2
 have HR3 := aM hr3
 have HC3 := aM hc3
 clear hr3 hc3
 have HB := aM (Below.refl w.heap.size w)
 have H : (if (l3.length : Int) > 4096 then (some ((([] : List (S80))), 2)) else ((spec_l07Env.f k l0_0 l0_1 l0_2 l0_3 l0_4 l0_5 l1 l2).bind fun t214 => (if t214 = 0 then (if (l3.length : Int) = (l0_0.length : Int) then (spec_RoutesOf.l0 k l1 l2 l3 0 l0_0 l0_1 l0_2 l0_3 l0_4 l0_5) else (some ((([] : List (S80))), 5))) else (some ((([] : List (S80))), t214))))) = some (r1, r2) := h
 clear h
 by_cases c5 : (l3.length : Int) > 4096
 ·rw [if_pos c5] at H
  have c5b0 : decide (4096 < (l3.length : Int)) = true := decide_eq_true c5
  have c5b1 : decide (4096 < l3.length) = true := decide_eq_true (by omega)
  clear c5
  obtain ⟨y211, hy211⟩ : ∃ y_ : List (S80), y_ = (([] : List (S80))) := ⟨_, rfl⟩
  replace H : (some (y211, 2)) = some (r1, r2) := by (rw [hy211]; with_reducible exact H)
  have Ny211 := aM hy211
  clear hy211
  simp only [Option.some.injEq, Prod.mk.injEq] at H
  obtain ⟨rfl, rfl⟩ := H
  go_enter Try.func9, Try.ntmps9
  go_wp2_with (first | ((with_reducible refine gate_dst (N := 4) rfl ?_); refine box_event rfl (N := 4) rfl (cs := #[.slice A0_0 l0_0.length c0_0, .slice A0_1 l0_1.length c0_1, .slice A0_2 l0_2.length c0_2, .slice A0_3 l0_3.length c0_3, .slice A0_4 l0_4.length c0_4, .slice A0_5 l0_5.length c0_5]) (t := 38) (by go_simp; done) ?_; intro gb210 hg w6 hbox hb; have BK210 := aM (hbox); have GW210 := bGE HB.out hg; have GE210 := bGE HB.out hg; replace HB := aB HB hb; clear hb hbox hg) | ((with_reducible refine gate_dst (N := 17) rfl ?_); refine Kd.R_lit k80 _ 80 ?hg (N := 17) ?hd (xs := ([] : List (S80))) (inner := []) (ok := fun _ => True) (okp := fun _ => True) ?hr ?hp (fun _ hk => hk) trivial (Below.refl _ _) (Nat.le_refl _) (by simp) ?_; (case hd => rfl); (case hg => rfl); (case hr => (go_simp; done)); (case hp => exact (Reps.none _ _)); intro v212 w7 ho8 hb hg_ hnew_; clear hg_ hnew_; (rw [← Ny211.out] at ho8); have HO213 := aM (Kd.R_lower ho8 (below_size HB.out)); replace BK210 := aK BK210 hb; replace HB := aB HB hb; clear hb ho8))
  go_ret2
  exact ⟨_, by rfl, by exact HO213.out, by repeat ((with_reducible exact HB.out))⟩
 rw [if_neg c5] at H
 have c5b0 : decide (4096 < (l3.length : Int)) = false := decide_eq_false c5
 have c5b1 : decide (4096 < l3.length) = false := decide_eq_false (by omega)
 clear c5
 replace H := bS H
 obtain ⟨t214, A90, H⟩ := H
 replace H : (if t214 = 0 then (if (l3.length : Int) = (l0_0.length : Int) then (spec_RoutesOf.l0 k l1 l2 l3 0 l0_0 l0_1 l0_2 l0_3 l0_4 l0_5) else (some ((([] : List (S80))), 5))) else (some ((([] : List (S80))), t214))) = some (r1, r2) := H
 have A9 := aM A90
 clear A90
 by_cases c10 : t214 = 0
 rotate_left
 ·rw [if_neg c10] at H
  have c10b0 : (t214 == 0) = false := beq_eq_false_iff_ne.mpr c10
  have c10b1 : (t214 != 0) = true := bne_iff_ne.mpr c10
  obtain ⟨y215, hy215⟩ : ∃ y_ : List (S80), y_ = (([] : List (S80))) := ⟨_, rfl⟩
  replace H : (some (y215, t214)) = some (r1, r2) := by (rw [hy215]; with_reducible exact H)
  have Ny215 := aM hy215
  clear hy215
  simp only [Option.some.injEq, Prod.mk.injEq] at H
  obtain ⟨rfl, rfl⟩ := H
  go_enter Try.func9, Try.ntmps9
  go_wp2_with (first | ((with_reducible refine gate_dst (N := 4) rfl ?_); refine box_event rfl (N := 4) rfl (cs := #[.slice A0_0 l0_0.length c0_0, .slice A0_1 l0_1.length c0_1, .slice A0_2 l0_2.length c0_2, .slice A0_3 l0_3.length c0_3, .slice A0_4 l0_4.length c0_4, .slice A0_5 l0_5.length c0_5]) (t := 38) (by go_simp; done) ?_; intro gb210 hg w38 hbox hb; have BK210 := aM (hbox); have GW210 := bGE HB.out hg; have GE210 := bGE HB.out hg; replace HB := aB HB hb; clear hb hbox hg; obtain ⟨hcz39_0, hcz39_1, hcz39_2, hcz39_3, hcz39_4, hcz39_5⟩ := swc6 BK210.out; obtain ⟨hfz39_0, hfz39_1, hfz39_2, hfz39_3, hfz39_4, hfz39_5⟩ := swf6 BK210.out) | (go_at_call 39; (with_reducible refine (spec_l07Env.calls k _ _ l0_0 _ _ l0_1 _ _ l0_2 _ _ l0_3 _ _ l0_4 _ _ l0_5 _ _ l1 _ _ l2 t214 _ (Kd.C_below HR0_0.out HB.out) HC0_0.out (Kd.C_below HR0_1.out HB.out) HC0_1.out (Kd.C_below HR0_2.out HB.out) HC0_2.out (Kd.C_below HR0_3.out HB.out) HC0_3.out (Kd.C_below HR0_4.out HB.out) HC0_4.out (Kd.C_below HR0_5.out HB.out) HC0_5.out (Kd.C_below HR1.out HB.out) HC1.out (Kd.C_below HR2.out HB.out) HC2.out A9.out).mono ?_); rintro e w40 ⟨rfl, hb⟩; replace BK210 := aK BK210 hb; replace HB := aB HB hb; (try clear hb)) | ((with_reducible refine gate_dst (N := 24) rfl ?_); refine Kd.R_lit k80 _ 80 ?hg (N := 24) ?hd (xs := ([] : List (S80))) (inner := []) (ok := fun _ => True) (okp := fun _ => True) ?hr ?hp (fun _ hk => hk) trivial (Below.refl _ _) (Nat.le_refl _) (by simp) ?_; (case hd => rfl); (case hg => rfl); (case hr => (go_simp; done)); (case hp => exact (Reps.none _ _)); intro v216 w41 ho42 hb hg_ hnew_; clear hg_ hnew_; (rw [← Ny215.out] at ho42); have HO217 := aM (Kd.R_lower ho42 (below_size HB.out)); replace BK210 := aK BK210 hb; replace HB := aB HB hb; clear hb ho42))
  go_ret2
  exact ⟨_, by rfl, by exact HO217.out, by repeat ((with_reducible exact HB.out))⟩
 rw [if_pos c10] at H
 have c10b0 : (t214 == 0) = true := beq_iff_eq.mpr c10
 have c10b1 : (t214 != 0) = false := bne_eq_false_iff_eq.mpr c10
 clear c10
 by_cases c11 : (l3.length : Int) = (l0_0.length : Int)
 rotate_left
 ·rw [if_neg c11] at H
  have c11b0 : ((l3.length : Int) == (l0_0.length : Int)) = false := beq_eq_false_iff_ne.mpr c11
  have c11b1 : ((l3.length : Int) != (l0_0.length : Int)) = true := bne_iff_ne.mpr c11
  have c11b2 : (l3.length == l0_0.length) = false := by (simp at c11 ⊢; omega)
  obtain ⟨y218, hy218⟩ : ∃ y_ : List (S80), y_ = (([] : List (S80))) := ⟨_, rfl⟩
  replace H : (some (y218, 5)) = some (r1, r2) := by (rw [hy218]; with_reducible exact H)
  have Ny218 := aM hy218
  clear hy218
  simp only [Option.some.injEq, Prod.mk.injEq] at H
  obtain ⟨rfl, rfl⟩ := H
  go_enter Try.func9, Try.ntmps9
  go_wp2_with (first | ((with_reducible refine gate_dst (N := 4) rfl ?_); refine box_event rfl (N := 4) rfl (cs := #[.slice A0_0 l0_0.length c0_0, .slice A0_1 l0_1.length c0_1, .slice A0_2 l0_2.length c0_2, .slice A0_3 l0_3.length c0_3, .slice A0_4 l0_4.length c0_4, .slice A0_5 l0_5.length c0_5]) (t := 38) (by go_simp; done) ?_; intro gb210 hg w32 hbox hb; have BK210 := aM (hbox); have GW210 := bGE HB.out hg; have GE210 := bGE HB.out hg; replace HB := aB HB hb; clear hb hbox hg; obtain ⟨hcz33_0, hcz33_1, hcz33_2, hcz33_3, hcz33_4, hcz33_5⟩ := swc6 BK210.out; obtain ⟨hfz33_0, hfz33_1, hfz33_2, hfz33_3, hfz33_4, hfz33_5⟩ := swf6 BK210.out) | (go_at_call 39; (with_reducible refine (spec_l07Env.calls k _ _ l0_0 _ _ l0_1 _ _ l0_2 _ _ l0_3 _ _ l0_4 _ _ l0_5 _ _ l1 _ _ l2 t214 _ (Kd.C_below HR0_0.out HB.out) HC0_0.out (Kd.C_below HR0_1.out HB.out) HC0_1.out (Kd.C_below HR0_2.out HB.out) HC0_2.out (Kd.C_below HR0_3.out HB.out) HC0_3.out (Kd.C_below HR0_4.out HB.out) HC0_4.out (Kd.C_below HR0_5.out HB.out) HC0_5.out (Kd.C_below HR1.out HB.out) HC1.out (Kd.C_below HR2.out HB.out) HC2.out A9.out).mono ?_); rintro e w34 ⟨rfl, hb⟩; replace BK210 := aK BK210 hb; replace HB := aB HB hb; (try clear hb); obtain ⟨hcz35_0, hcz35_1, hcz35_2, hcz35_3, hcz35_4, hcz35_5⟩ := swc6 BK210.out; obtain ⟨hfz35_0, hfz35_1, hfz35_2, hfz35_3, hfz35_4, hfz35_5⟩ := swf6 BK210.out) | ((with_reducible refine gate_dst (N := 32) rfl ?_); refine Kd.R_lit k80 _ 80 ?hg (N := 32) ?hd (xs := ([] : List (S80))) (inner := []) (ok := fun _ => True) (okp := fun _ => True) ?hr ?hp (fun _ hk => hk) trivial (Below.refl _ _) (Nat.le_refl _) (by simp) ?_; (case hd => rfl); (case hg => rfl); (case hr => (go_simp; done)); (case hp => exact (Reps.none _ _)); intro v219 w36 ho37 hb hg_ hnew_; clear hg_ hnew_; (rw [← Ny218.out] at ho37); have HO220 := aM (Kd.R_lower ho37 (below_size HB.out)); replace BK210 := aK BK210 hb; replace HB := aB HB hb; clear hb ho37))
  go_ret2
  exact ⟨_, by rfl, by exact HO220.out, by repeat ((with_reducible exact HB.out))⟩
 rw [if_pos c11] at H
 have c11b0 : ((l3.length : Int) == (l0_0.length : Int)) = true := beq_iff_eq.mpr c11
 have c11b1 : ((l3.length : Int) != (l0_0.length : Int)) = false := bne_eq_false_iff_eq.mpr c11
 have c11b2 : (l3.length == l0_0.length) = true := by (simp at c11 ⊢; omega)
 clear c11
 have H' := aM H
 clear H
 go_enter Try.func9, Try.ntmps9
 go_wp2_with (first | ((with_reducible refine gate_dst (N := 4) rfl ?_); refine box_event rfl (N := 4) rfl (cs := #[.slice A0_0 l0_0.length c0_0, .slice A0_1 l0_1.length c0_1, .slice A0_2 l0_2.length c0_2, .slice A0_3 l0_3.length c0_3, .slice A0_4 l0_4.length c0_4, .slice A0_5 l0_5.length c0_5]) (t := 38) (by go_simp; done) ?_; intro gb210 hg w12 hbox hb; have BK210 := aM (hbox); have GW210 := bGE HB.out hg; have GE210 := bGE HB.out hg; replace HB := aB HB hb; clear hb hbox hg; obtain ⟨hcz13_0, hcz13_1, hcz13_2, hcz13_3, hcz13_4, hcz13_5⟩ := swc6 BK210.out; obtain ⟨hfz13_0, hfz13_1, hfz13_2, hfz13_3, hfz13_4, hfz13_5⟩ := swf6 BK210.out) | (go_at_call 39; (with_reducible refine (spec_l07Env.calls k _ _ l0_0 _ _ l0_1 _ _ l0_2 _ _ l0_3 _ _ l0_4 _ _ l0_5 _ _ l1 _ _ l2 t214 _ (Kd.C_below HR0_0.out HB.out) HC0_0.out (Kd.C_below HR0_1.out HB.out) HC0_1.out (Kd.C_below HR0_2.out HB.out) HC0_2.out (Kd.C_below HR0_3.out HB.out) HC0_3.out (Kd.C_below HR0_4.out HB.out) HC0_4.out (Kd.C_below HR0_5.out HB.out) HC0_5.out (Kd.C_below HR1.out HB.out) HC1.out (Kd.C_below HR2.out HB.out) HC2.out A9.out).mono ?_); rintro e w14 ⟨rfl, hb⟩; replace BK210 := aK BK210 hb; replace HB := aB HB hb; (try clear hb); obtain ⟨hcz15_0, hcz15_1, hcz15_2, hcz15_3, hcz15_4, hcz15_5⟩ := swc6 BK210.out; obtain ⟨hfz15_0, hfz15_1, hfz15_2, hfz15_3, hfz15_4, hfz15_5⟩ := swf6 BK210.out))
 go_loopg [11] k (fun kq v11 w' => ∃ (x11_1 : Int), v11 = .int .i64 x11_1 ∧ Aside0 (spec_RoutesOf.l0 kq l1 l2 l3 x11_1 l0_0 l0_1 l0_2 l0_3 l0_4 l0_5 = some (r1, r2)) ∧ Aside0 (kq ≤ k) ∧ Aside0 (w'.heap[gb210]? = some (.cells #[(.slice A0_0 l0_0.length c0_0), (.slice A0_1 l0_1.length c0_1), (.slice A0_2 l0_2.length c0_2), (.slice A0_3 l0_3.length c0_3), (.slice A0_4 l0_4.length c0_4), (.slice A0_5 l0_5.length c0_5)] 38 (0, 0))) ∧ Aside0 (Below w.heap.size w w'))
 case atStart => exact ⟨(0), (by rfl), H', ⟨Nat.le_refl _⟩, ⟨by exact BK210.out⟩, ⟨by repeat ((with_reducible exact HB.out))⟩⟩
 clear H'
 clear c5b0 c5b1 c10b0 c10b1 c11b0 c11b1 c11b2 hcz13_0 hcz13_1 hcz13_2 hcz13_3 hcz13_4 hcz13_5 hcz15_0 hcz15_1 hcz15_2 hcz15_3 hcz15_4 hcz15_5 hfz13_0 hfz13_1 hfz13_2 hfz13_3 hfz13_4 hfz13_5 hfz15_0 hfz15_1 hfz15_2 hfz15_3 hfz15_4 hfz15_5
 obtain ⟨x11_1, rfl, HA, HK1, BK210, HB⟩ := hrel
 cases gk with
 | zero => exact absurd HA.out (by simp [spec_RoutesOf.l0])
 | succ k1 =>
  have H := HA.out
  clear HA
  simp only [spec_RoutesOf.l0] at H
  by_cases c16 : x11_1 < (l3.length : Int)
  ·rw [if_pos c16] at H
   have c16b0 : decide (x11_1 < (l3.length : Int)) = true := decide_eq_true c16
   clear c16
   by_cases c17 : 0 ≤ x11_1
   rotate_left
   ·rw [if_neg c17] at H
    exact absurd H (by simp)
   rw [if_pos c17] at H
   have c17b0 : decide (0 ≤ x11_1) = true := decide_eq_true c17
   clear c17
   replace H := bS H
   obtain ⟨t222, A180, H⟩ := H
   replace H : (if t222 = true then (spec_RoutesOf.l0 k1 l1 l2 l3 (wrap64 (x11_1 + 1)) l0_0 l0_1 l0_2 l0_3 l0_4 l0_5) else (some ((([] : List (S80))), 5))) = some (r1, r2) := H
   have A18 := aM A180
   clear A180
   by_cases c19 : t222 = true
   ·subst c19
    rw [if_pos rfl] at H
    have H' := aM H
    clear H
    have p221 : 0 ≤ (x11_1 : Int) := oD ‹_›
    have q221 : x11_1 < (l3.length : Int) := oD ‹_›
    obtain ⟨ad221, e221, hx221_0⟩ := Kd.at_int HR3.out x11_1 p221 q221
    cases e221
    replace hx221_0 := swB HB.out hx221_0
    replace p221 := eq_true p221
    replace q221 := eq_true q221
    obtain ⟨hcz20_0, hcz20_1, hcz20_2, hcz20_3, hcz20_4, hcz20_5⟩ := swc6 BK210.out
    obtain ⟨hfz20_0, hfz20_1, hfz20_2, hfz20_3, hfz20_4, hfz20_5⟩ := swf6 BK210.out
    go_wp2_with (first | (go_at_call 40; (with_reducible refine (spec_l01In.calls (rd l3 x11_1) (-3) (wrap64 ((l0_0.length : Int) - 1)) true _ A18.out).mono ?_); rintro e w' ⟨rfl, ⟨nd, rfl⟩⟩; (try first | exact ⟨rfl, _, World.drewN_drewN _ _ _⟩ | exact ⟨rfl, _, Eq.trans (World.drewN_drewN _ _ _) (congrArg (World.drewN _) (Nat.add_assoc _ _ _))⟩)))
    repeat (go_quiet ((go_at_call 40; (with_reducible refine (spec_l01In.calls (rd l3 x11_1) (-3) (wrap64 ((l0_0.length : Int) - 1)) true _ A18.out).mono ?_); rintro e w' ⟨rfl, ⟨nd, rfl⟩⟩; (try exact ⟨rfl, _, World.drewN_drewN _ _ _⟩))); try go_wp2_with (first | (go_at_call 40; (with_reducible refine (spec_l01In.calls (rd l3 x11_1) (-3) (wrap64 ((l0_0.length : Int) - 1)) true _ A18.out).mono ?_); rintro e w' ⟨rfl, ⟨nd, rfl⟩⟩; (try first | exact ⟨rfl, _, World.drewN_drewN _ _ _⟩ | exact ⟨rfl, _, Eq.trans (World.drewN_drewN _ _ _) (congrArg (World.drewN _) (Nat.add_assoc _ _ _))⟩))))
    go_roundg k1
    case measure => have := HK1.out; omega
    case rel => exact ⟨(wrap64 (x11_1 + 1)), (by rfl), H', ⟨by have := HK1.out; omega⟩, ⟨by (with_reducible repeat (refine blk_drewN ?_ _)); exact BK210.out⟩, ⟨by repeat ((with_reducible first | exact HB.out | apply pw_below_drewN))⟩⟩
   replace c19 := Bool.eq_false_iff.mpr c19
   subst c19
   rw [if_neg (show ¬ (false = true) by decide)] at H
   obtain ⟨y223, hy223⟩ : ∃ y_ : List (S80), y_ = (([] : List (S80))) := ⟨_, rfl⟩
   replace H : (some (y223, 5)) = some (r1, r2) := by (rw [hy223]; with_reducible exact H)
   have Ny223 := aM hy223
   clear hy223
   simp only [Option.some.injEq, Prod.mk.injEq] at H
   obtain ⟨rfl, rfl⟩ := H
   have p221 : 0 ≤ (x11_1 : Int) := oD ‹_›
   have q221 : x11_1 < (l3.length : Int) := oD ‹_›
   obtain ⟨ad221, e221, hx221_0⟩ := Kd.at_int HR3.out x11_1 p221 q221
   cases e221
   replace hx221_0 := swB HB.out hx221_0
   replace p221 := eq_true p221
   replace q221 := eq_true q221
   obtain ⟨hcz21_0, hcz21_1, hcz21_2, hcz21_3, hcz21_4, hcz21_5⟩ := swc6 BK210.out
   obtain ⟨hfz21_0, hfz21_1, hfz21_2, hfz21_3, hfz21_4, hfz21_5⟩ := swf6 BK210.out
   go_wp2_with (first | (go_at_call 40; (with_reducible refine (spec_l01In.calls (rd l3 x11_1) (-3) (wrap64 ((l0_0.length : Int) - 1)) false _ A18.out).mono ?_); rintro e w' ⟨rfl, ⟨nd, rfl⟩⟩; (try first | exact ⟨rfl, _, World.drewN_drewN _ _ _⟩ | exact ⟨rfl, _, Eq.trans (World.drewN_drewN _ _ _) (congrArg (World.drewN _) (Nat.add_assoc _ _ _))⟩)) | ((with_reducible refine gate_dst (N := 49) rfl ?_); refine Kd.R_lit k80 _ 80 ?hg (N := 49) ?hd (xs := ([] : List (S80))) (inner := []) (ok := fun _ => True) (okp := fun _ => True) ?hr ?hp (fun _ hk => hk) trivial (Below.refl _ _) (Nat.le_refl _) (by simp) ?_; (case hd => rfl); (case hg => rfl); (case hr => first | (go_simp; done) | (go_simp; rfl)); (case hp => exact (Reps.none _ _)); intro v224 w22 ho23 hb hg_ hnew_; clear hg_ hnew_; (first | rw [← Ny223.out] at ho23 | (simp only [Int.reduceToNat] at ho23; rw [← Ny223.out] at ho23)); have HO225 := aM (Kd.R_lower ho23 (below_size (by repeat (first | (with_reducible first | exact HB.out | apply below_alloc | apply pw_below_drewN | apply below_drew1 | refine below_set ?_ GE210.out) | exact HB.out)))); replace BK210 := aM (blk_below (g := gb210) (o := .cells #[.slice A0_0 l0_0.length c0_0, .slice A0_1 l0_1.length c0_1, .slice A0_2 l0_2.length c0_2, .slice A0_3 l0_3.length c0_3, .slice A0_4 l0_4.length c0_4, .slice A0_5 l0_5.length c0_5] 38 (0, 0)) (by (with_reducible repeat (first | refine blk_drewN ?_ _ | refine blk_drew ?_ | refine blk_alloc ?_ _)); exact BK210.out) hb); replace HB := aM (below_step (by repeat (first | (with_reducible first | exact HB.out | apply below_alloc | apply pw_below_drewN | apply below_drew1 | refine below_set ?_ GE210.out) | exact HB.out)) hb); clear hb ho23))
   repeat (go_quiet ((go_at_call 40; (with_reducible refine (spec_l01In.calls (rd l3 x11_1) (-3) (wrap64 ((l0_0.length : Int) - 1)) false _ A18.out).mono ?_); rintro e w' ⟨rfl, ⟨nd, rfl⟩⟩; (try exact ⟨rfl, _, World.drewN_drewN _ _ _⟩))); try go_wp2_with (((with_reducible refine gate_dst (N := 49) rfl ?_); refine Kd.R_lit k80 _ 80 ?hg (N := 49) ?hd (xs := ([] : List (S80))) (inner := []) (ok := fun _ => True) (okp := fun _ => True) ?hr ?hp (fun _ hk => hk) trivial (Below.refl _ _) (Nat.le_refl _) (by simp) ?_; (case hd => rfl); (case hg => rfl); (case hr => (go_simp; done)); (case hp => exact (Reps.none _ _)); intro v224 w22 ho23 hb hg_ hnew_; clear hg_ hnew_; (rw [← Ny223.out] at ho23); have HO225 := aM (Kd.R_lower ho23 (below_size (by repeat ((with_reducible first | exact HB.out | apply pw_below_drewN))))); replace BK210 := aM (blk_below (g := gb210) (o := .cells #[.slice A0_0 l0_0.length c0_0, .slice A0_1 l0_1.length c0_1, .slice A0_2 l0_2.length c0_2, .slice A0_3 l0_3.length c0_3, .slice A0_4 l0_4.length c0_4, .slice A0_5 l0_5.length c0_5] 38 (0, 0)) (by (with_reducible repeat (refine blk_drewN ?_ _)); exact BK210.out) hb); replace HB := aM (below_step (by repeat ((with_reducible first | exact HB.out | apply pw_below_drewN))) hb); clear hb ho23)))
   go_ret2
   exact ⟨_, by rfl, by exact HO225.out, by repeat ((with_reducible exact HB.out))⟩
  rw [if_neg c16] at H
  have c16b0 : decide (x11_1 < (l3.length : Int)) = false := decide_eq_false c16
  clear c16
  replace H := bS H
  obtain ⟨⟨t226, t229⟩, A240, H⟩ := H
  replace H : (if t229 = true then (some (t226, 0)) else (some ((([] : List (S80))), 6))) = some (r1, r2) := H
  have A24 := aM A240
  clear A240
  by_cases c25 : t229 = true
  ·subst c25
   rw [if_pos rfl] at H
   simp only [Option.some.injEq, Prod.mk.injEq] at H
   obtain ⟨rfl, rfl⟩ := H
   obtain ⟨hcz26_0, hcz26_1, hcz26_2, hcz26_3, hcz26_4, hcz26_5⟩ := swc6 BK210.out
   obtain ⟨hfz26_0, hfz26_1, hfz26_2, hfz26_3, hfz26_4, hfz26_5⟩ := swf6 BK210.out
   go_wp2_with ((go_at_call 41; (with_reducible refine (spec_l07Of.calls k1 _ _ l0_0 _ _ l0_1 _ _ l0_2 _ _ l0_3 _ _ l0_4 _ _ l0_5 _ _ l1 _ _ l2 _ _ l3 t226 true _ (Kd.C_below HR0_0.out HB.out) HC0_0.out (Kd.C_below HR0_1.out HB.out) HC0_1.out (Kd.C_below HR0_2.out HB.out) HC0_2.out (Kd.C_below HR0_3.out HB.out) HC0_3.out (Kd.C_below HR0_4.out HB.out) HC0_4.out (Kd.C_below HR0_5.out HB.out) HC0_5.out (Kd.C_below HR1.out HB.out) HC1.out (Kd.C_below HR2.out HB.out) HC2.out (Kd.C_below HR3.out HB.out) HC3.out A24.out).mono ?_); rintro e w27 ⟨v227, rfl, ho0, hb⟩; have HO228 := aM (Kd.R_lower ho0 (below_size HB.out)); replace BK210 := aK BK210 hb; replace HB := aB HB hb; (try clear hb); (try clear ho0)))
   go_ret2
   exact ⟨_, by rfl, by exact HO228.out, by repeat ((with_reducible exact HB.out))⟩
  replace c25 := Bool.eq_false_iff.mpr c25
  subst c25
  rw [if_neg (show ¬ (false = true) by decide)] at H
  obtain ⟨y230, hy230⟩ : ∃ y_ : List (S80), y_ = (([] : List (S80))) := ⟨_, rfl⟩
  replace H : (some (y230, 6)) = some (r1, r2) := by (rw [hy230]; with_reducible exact H)
  have Ny230 := aM hy230
  clear hy230
  simp only [Option.some.injEq, Prod.mk.injEq] at H
  obtain ⟨rfl, rfl⟩ := H
  obtain ⟨hcz28_0, hcz28_1, hcz28_2, hcz28_3, hcz28_4, hcz28_5⟩ := swc6 BK210.out
  obtain ⟨hfz28_0, hfz28_1, hfz28_2, hfz28_3, hfz28_4, hfz28_5⟩ := swf6 BK210.out
  go_wp2_with (first | (go_at_call 41; (with_reducible refine (spec_l07Of.calls k1 _ _ l0_0 _ _ l0_1 _ _ l0_2 _ _ l0_3 _ _ l0_4 _ _ l0_5 _ _ l1 _ _ l2 _ _ l3 t226 false _ (Kd.C_below HR0_0.out HB.out) HC0_0.out (Kd.C_below HR0_1.out HB.out) HC0_1.out (Kd.C_below HR0_2.out HB.out) HC0_2.out (Kd.C_below HR0_3.out HB.out) HC0_3.out (Kd.C_below HR0_4.out HB.out) HC0_4.out (Kd.C_below HR0_5.out HB.out) HC0_5.out (Kd.C_below HR1.out HB.out) HC1.out (Kd.C_below HR2.out HB.out) HC2.out (Kd.C_below HR3.out HB.out) HC3.out A24.out).mono ?_); rintro e w29 ⟨v227, rfl, ho0, hb⟩; have HO228 := aM (Kd.R_lower ho0 (below_size HB.out)); replace BK210 := aK BK210 hb; replace HB := aB HB hb; (try clear hb); (try clear ho0)) | ((with_reducible refine gate_dst (N := 60) rfl ?_); refine Kd.R_lit k80 _ 80 ?hg (N := 60) ?hd (xs := ([] : List (S80))) (inner := []) (ok := fun _ => True) (okp := fun _ => True) ?hr ?hp (fun _ hk => hk) trivial (Below.refl _ _) (Nat.le_refl _) (by simp) ?_; (case hd => rfl); (case hg => rfl); (case hr => (go_simp; done)); (case hp => exact (Reps.none _ _)); intro v231 w30 ho31 hb hg_ hnew_; clear hg_ hnew_; (rw [← Ny230.out] at ho31); have HO232 := aM (Kd.R_lower (Kd.R_new' ho31 (Kd.R_lt HO228.out)) (below_size HB.out)); replace HO228 := aM (Kd.R_elder' HO228.out (Kd.R_base ho31) hb); replace BK210 := aK BK210 hb; replace HB := aB HB hb; clear hb ho31))
  go_ret2
  exact ⟨_, by rfl, by exact Kd.R_mono HO232.out (fun _ hk => trivial), by repeat ((with_reducible exact HB.out))⟩
end Go.Proofs.Ytgibacfgjmdjdaa.PFnExactIsStable
end
