/- FnExactCandidates: for every input the law returns true. The texts that this program's session printed and proved for it, those that the proof uses, laid together. Conditions: the form's own reach alone. -/
import Derived.Test.YtgibacfgjmdjdaaQFnExactCandidates3
section
namespace Go.Proofs.Ytgibacfgjmdjdaa.PFnExactIsStable
open Go.RowKit Go.Proofs.YtgibacfgjmdjdaaW.PrintWords Go.Proofs.YtgibacfgjmdjdaaW.PrintLast Go.Proofs.YtgibacfgjmdjdaaW.PrintMore
attribute [local go_sem] max2_int min2_int max_two min_two max_three min_three max_four min_four   -- for this text's walks alone
set_option linter.unusedVariables false
set_option maxHeartbeats 8000000
set_option maxRecDepth 100000
set_option linter.unusedSimpArgs false
def slices_Index_int_int.l0 : Nat → List Int → Int → Int → Int → Option (Int)
 | 0, _, _, _, _ => none
 | k + 1, x0, x1, x7, x8 => if x8 < x7 then (if 0 ≤ x8 then (if x8 < (x0.length : Int) then (if x1 = (rd x0 x8) then (some x8) else (slices_Index_int_int.l0 k x0 x1 x7 (wrap64 (x8 + 1)))) else (none)) else (none)) else (some (-1))
def slices_Index_int_int.f (k : Nat) (l0 : List Int) (a1 : Int) : Option (Int) := slices_Index_int_int.l0 k l0 a1 (l0.length : Int) 0
theorem slices_Index_int_int.calls (k : Nat) (A0 : Option Addr) (c0 : Nat) (l0 : List Int) (a1 : Int) (r : Int) (w : World) (hr0 : Kd.C (Kd.int .i64) w A0 l0.length l0) (hc0 : l0.length ≤ c0) (h : slices_Index_int_int.f k l0 a1 = some r) :
  Calls Try.prog 118 #[.slice A0 l0.length c0, .int .i64 a1] w fun e w' => e = .returned (.int .i64 r) ∧ Drawn0 w w' := by
 have HR0 := aM hr0
 have HC0 := aM hc0
 clear hr0 hc0
 have H : (slices_Index_int_int.l0 k l0 a1 (l0.length : Int) 0) = some r := h
 clear h
 have H' := aM H
 clear H
 go_enter Try.func118, Try.ntmps118
 go_wp2
 go_loopg [8] k (fun kq v8 w' => ∃ (x8_1 : Int), v8 = .int .i64 x8_1 ∧ Aside0 (slices_Index_int_int.l0 kq l0 a1 (l0.length : Int) x8_1 = some r) ∧ Aside0 (kq ≤ k) ∧ Drawn0 w w')
 case atStart => exact ⟨(0), (by rfl), H', ⟨Nat.le_refl _⟩, by repeat (exact Drawn0.refl _)⟩
 clear H'
 obtain ⟨x8_1, rfl, HA, HK1, ⟨m1, rfl⟩⟩ := hrel
 cases gk with
 | zero => exact absurd HA.out (by simp [slices_Index_int_int.l0])
 | succ k1 =>
  have H := HA.out
  clear HA
  simp only [slices_Index_int_int.l0] at H
  by_cases c3 : x8_1 < (l0.length : Int)
  rotate_left
  ·rw [if_neg c3] at H
   have c3b0 : decide (x8_1 < (l0.length : Int)) = false := decide_eq_false c3
   clear c3
   obtain rfl := Option.some.inj H
   go_wp2
   go_ret
   exact ⟨by rfl, by repeat (first | exact Drawn0.refl _ | apply Drawn0.step)⟩
  rw [if_pos c3] at H
  have c3b0 : decide (x8_1 < (l0.length : Int)) = true := decide_eq_true c3
  clear c3
  by_cases c4 : 0 ≤ x8_1
  rotate_left
  ·rw [if_neg c4] at H
   exact absurd H (by simp)
  rw [if_pos c4] at H
  have c4b0 : decide (0 ≤ x8_1) = true := decide_eq_true c4
  clear c4
  by_cases c5 : x8_1 < (l0.length : Int)
  rotate_left
  ·rw [if_neg c5] at H
   exact absurd H (by simp)
  rw [if_pos c5] at H
  have c5b0 : decide (x8_1 < (l0.length : Int)) = true := decide_eq_true c5
  clear c5
  by_cases c6 : a1 = (rd l0 x8_1)
  ·rw [if_pos c6] at H
   have c6b0 : (a1 == (rd l0 x8_1)) = true := beq_iff_eq.mpr c6
   have c6b1 : (a1 != (rd l0 x8_1)) = false := bne_eq_false_iff_eq.mpr c6
   clear c6
   obtain rfl := Option.some.inj H
   have p332 : 0 ≤ (x8_1 : Int) := oD ‹_›
   have q332 : x8_1 < (l0.length : Int) := oD ‹_›
   obtain ⟨ad332, e332, hx332_0⟩ := Kd.at_int HR0.out x8_1 p332 q332
   cases e332
   replace p332 := eq_true p332
   replace q332 := eq_true q332
   go_wp2
   go_ret
   exact ⟨by rfl, by repeat (first | exact Drawn0.refl _ | apply Drawn0.step)⟩
  rw [if_neg c6] at H
  have c6b0 : (a1 == (rd l0 x8_1)) = false := beq_eq_false_iff_ne.mpr c6
  have c6b1 : (a1 != (rd l0 x8_1)) = true := bne_iff_ne.mpr c6
  have H' := aM H
  clear H
  have p332 : 0 ≤ (x8_1 : Int) := oD ‹_›
  have q332 : x8_1 < (l0.length : Int) := oD ‹_›
  obtain ⟨ad332, e332, hx332_0⟩ := Kd.at_int HR0.out x8_1 p332 q332
  cases e332
  replace p332 := eq_true p332
  replace q332 := eq_true q332
  go_wp2
  go_roundg k1
  case measure => have := HK1.out; omega
  case rel => exact ⟨(wrap64 (x8_1 + 1)), (by rfl), H', ⟨by have := HK1.out; omega⟩, by repeat (first | exact Drawn0.refl _ | apply Drawn0.step)⟩
def slices_Contains_int_int.f (k : Nat) (l0 : List Int) (a1 : Int) : Option (Bool) := (slices_Index_int_int.f k l0 a1).bind fun t333 => (some (decide (t333 ≥ 0)))
theorem slices_Contains_int_int.calls (k : Nat) (A0 : Option Addr) (c0 : Nat) (l0 : List Int) (a1 : Int) (r : Bool) (w : World) (hr0 : Kd.C (Kd.int .i64) w A0 l0.length l0) (hc0 : l0.length ≤ c0) (h : slices_Contains_int_int.f k l0 a1 = some r) :
  Calls Try.prog 117 #[.slice A0 l0.length c0, .int .i64 a1] w fun e w' => e = .returned (.bool r) ∧ Drawn0 w w' := by
 have HR0 := aM hr0
 have HC0 := aM hc0
 clear hr0 hc0
 have H : ((slices_Index_int_int.f k l0 a1).bind fun t333 => (some (decide (t333 ≥ 0)))) = some r := h
 clear h
 replace H := bS H
 obtain ⟨t333, A30, H⟩ := H
 replace H : (some (decide (t333 ≥ 0))) = some r := H
 have A3 := aM A30
 clear A30
 obtain rfl := Option.some.inj H
 go_enter Try.func117, Try.ntmps117
 go_wp2_with ((go_at_call 118; (with_reducible refine (slices_Index_int_int.calls k _ _ l0 a1 t333 _ HR0.out HC0.out A3.out).mono ?_); rintro e w' ⟨rfl, ⟨nd, rfl⟩⟩))
 go_ret
 exact ⟨by rfl, by repeat (first | exact Drawn0.refl _ | apply Drawn0.step)⟩
def impl_ownRoute.f (k : Nat) (l0_0 : List ByteArray) (l0_1 : List (S92)) (l0_2 : List Int) (l0_3 : List Int) (l0_4 : List (S95)) (l0_5 : List (S97)) (a1 : Int) : Option (Int × Int × Int × Bool × Bool) := (slices_Contains_int_int.f k l0_2 a1).bind fun t336 => (some ((-2), 200, 0, false, t336))
theorem impl_ownRoute.calls (k : Nat) (A0_0 : Option Addr) (c0_0 : Nat) (l0_0 : List ByteArray) (A0_1 : Option Addr) (c0_1 : Nat) (l0_1 : List (S92)) (A0_2 : Option Addr) (c0_2 : Nat) (l0_2 : List Int) (A0_3 : Option Addr) (c0_3 : Nat) (l0_3 : List Int) (A0_4 : Option Addr) (c0_4 : Nat) (l0_4 : List (S95)) (A0_5 : Option Addr) (c0_5 : Nat) (l0_5 : List (S97)) (a1 : Int) (r1 : Int) (r2 : Int) (r3 : Int) (r4 : Bool) (r5 : Bool) (w : World) (hr0_0 : Kd.C Kd.string w A0_0 l0_0.length l0_0) (hc0_0 : l0_0.length ≤ c0_0) (hr0_1 : Kd.C k92 w A0_1 l0_1.length l0_1) (hc0_1 : l0_1.length ≤ c0_1) (hr0_2 : Kd.C (Kd.int .i64) w A0_2 l0_2.length l0_2) (hc0_2 : l0_2.length ≤ c0_2) (hr0_3 : Kd.C (Kd.int .i64) w A0_3 l0_3.length l0_3) (hc0_3 : l0_3.length ≤ c0_3) (hr0_4 : Kd.C k95 w A0_4 l0_4.length l0_4) (hc0_4 : l0_4.length ≤ c0_4) (hr0_5 : Kd.C k97 w A0_5 l0_5.length l0_5) (hc0_5 : l0_5.length ≤ c0_5) (h : impl_ownRoute.f k l0_0 l0_1 l0_2 l0_3 l0_4 l0_5 a1 = some (r1, r2, r3, r4, r5)) :
  Calls Try.prog 102 #[.agg #[.slice A0_0 l0_0.length c0_0, .slice A0_1 l0_1.length c0_1, .slice A0_2 l0_2.length c0_2, .slice A0_3 l0_3.length c0_3, .slice A0_4 l0_4.length c0_4, .slice A0_5 l0_5.length c0_5], .int .i64 a1] w fun e w' => e = .returned (.tuple #[.agg #[.int .i64 r1, .int .i64 r2, .int .i64 r3, .bool r4], .bool r5]) ∧ Below w.heap.size w w' := by
 have hu38 := Try.underlying38
 have hu80 := Try.underlying80
 obtain ⟨HR0_0, HC0_0, HR0_1, HC0_1, HR0_2, HC0_2, HR0_3, HC0_3, HR0_4, HC0_4, HR0_5, HC0_5⟩ := as12 hr0_0 hc0_0 hr0_1 hc0_1 hr0_2 hc0_2 hr0_3 hc0_3 hr0_4 hc0_4 hr0_5 hc0_5
 clear hr0_0 hc0_0 hr0_1 hc0_1 hr0_2 hc0_2 hr0_3 hc0_3 hr0_4 hc0_4 hr0_5 hc0_5
 have HB := aM (Below.refl w.heap.size w)
 have H : ((slices_Contains_int_int.f k l0_2 a1).bind fun t336 => (some ((-2), 200, 0, false, t336))) = some (r1, r2, r3, r4, r5) := h
 clear h
 replace H := bS H
 obtain ⟨t336, A30, H⟩ := H
 replace H : (some ((-2), 200, 0, false, t336)) = some (r1, r2, r3, r4, r5) := H
 have A3 := aM A30
 clear A30
 simp only [Option.some.injEq, Prod.mk.injEq] at H
 obtain ⟨rfl, rfl, rfl, rfl, rfl⟩ := H
 go_enter Try.func102, Try.ntmps102
 go_wp2_with (first | ((with_reducible refine gate_dst (N := 2) rfl ?_); refine box_event rfl (N := 2) rfl (cs := #[.slice A0_0 l0_0.length c0_0, .slice A0_1 l0_1.length c0_1, .slice A0_2 l0_2.length c0_2, .slice A0_3 l0_3.length c0_3, .slice A0_4 l0_4.length c0_4, .slice A0_5 l0_5.length c0_5]) (t := 38) (by go_simp; done) ?_; intro gb334 hg w4 hbox hb; have BK334 := aM (hbox); have GW334 := bGE HB.out hg; have GE334 := bGE HB.out hg; replace HB := aB HB hb; clear hb hbox hg) | ((with_reducible refine gate_dst (N := 4) rfl ?_); refine box_event rfl (N := 4) rfl (cs := #[.int .i64 0, .int .i64 0, .int .i64 0, .bool false]) (t := 80) (by go_simp; done) ?_; intro gb335 hg w5 hbox hb; have BK335 := aM (hbox); have GW335 := bGE HB.out hg; have GE335 := bGE HB.out hg; replace HB := aB HB hb; have NB334_335 := bLT BK334.out hg; have NB335_334 := bGT BK334.out hg; replace BK334 := aK BK334 hb; clear hb hbox hg; have hnb6 := NB334_335.out; have hnc6 := NB335_334.out; obtain ⟨hcz7_0, hcz7_1, hcz7_2, hcz7_3, hcz7_4, hcz7_5⟩ := swc6 BK334.out; obtain ⟨hfz7_0, hfz7_1, hfz7_2, hfz7_3, hfz7_4, hfz7_5⟩ := swf6 BK334.out) | (go_at_call 117; (with_reducible refine (slices_Contains_int_int.calls k _ _ l0_2 a1 t336 _ (Kd.C_below HR0_2.out HB.out) HC0_2.out A3.out).mono ?_); rintro e w' ⟨rfl, ⟨nd, rfl⟩⟩; (try (rw [drewN_self w5]; generalize hq_ : World.drewN w5 _ = w5; have n0_ : Aside0 (w5.heap[gb334]? = some (.cells #[.slice A0_0 l0_0.length c0_0, .slice A0_1 l0_1.length c0_1, .slice A0_2 l0_2.length c0_2, .slice A0_3 l0_3.length c0_3, .slice A0_4 l0_4.length c0_4, .slice A0_5 l0_5.length c0_5] 38 (0, 0))) := ⟨by rw [← hq_]; exact (by (with_reducible repeat (refine blk_drewN ?_ _)); exact BK334.out)⟩; have n1_ : Aside0 (w5.heap[gb335]? = some (.cells #[.int .i64 0, .int .i64 0, .int .i64 0, .bool false] 80 (0, 0))) := ⟨by rw [← hq_]; exact (by (with_reducible repeat (refine blk_drewN ?_ _)); exact BK335.out)⟩; have n2_ : Aside0 (Below w.heap.size w w5) := ⟨by rw [← hq_]; exact (by repeat ((with_reducible first | exact HB.out | apply pw_below_drewN)))⟩; clear BK334 BK335 HB hq_; have BK334 := n0_; have BK335 := n1_; have HB := n2_; clear n0_ n1_ n2_)); obtain ⟨hcz8_0, hcz8_1, hcz8_2, hcz8_3⟩ := swc4 BK335.out; obtain ⟨hfz8_0, hfz8_1, hfz8_2, hfz8_3⟩ := swf4 BK335.out))
 refine bodyPost_ret (results_ct rfl _ _ gb335 80 #[.int .i64 (-2), .int .i64 200, .int .i64 0, .bool false] (0, 0) _ rfl (by refine blk_put (cs := #[.int .i64 (-2), .int .i64 200, .int .i64 0, .bool false]) ?_ 3 _ rfl; refine blk_put (cs := #[.int .i64 (-2), .int .i64 200, .int .i64 0, .bool false]) ?_ 2 _ rfl; refine blk_put (cs := #[.int .i64 (-2), .int .i64 0, .int .i64 0, .bool false]) ?_ 1 _ rfl; refine blk_put (cs := #[.int .i64 0, .int .i64 0, .int .i64 0, .bool false]) ?_ 0 _ rfl; exact BK335.out) Try.underlying80 rfl (by kernel_rfl)) rfl ?_
 exact ⟨by rfl, by repeat ((with_reducible first | exact HB.out | refine below_set ?_ GE335.out))⟩
def impl_outRoute.f (k : Nat) (l0_0 : List ByteArray) (l0_1 : List (S92)) (l0_2 : List Int) (l0_3 : List Int) (l0_4 : List (S95)) (l0_5 : List (S97)) (l1 : List Int) (a2 : Int) : Option (Int × Int × Int × Bool × Bool) := (slices_Index_int_int.f k l0_3 a2).bind fun t339 => (if t339 < 0 then (some (0, 0, 0, false, false)) else (if 0 ≤ t339 then (if t339 < (l1.length : Int) then (if (rd l1 t339) = 0 then (some (0, 0, 0, false, false)) else (some ((-1), 100, 2, ((rd l1 t339) == 2), true))) else (none)) else (none)))
theorem impl_outRoute.calls (k : Nat) (A0_0 : Option Addr) (c0_0 : Nat) (l0_0 : List ByteArray) (A0_1 : Option Addr) (c0_1 : Nat) (l0_1 : List (S92)) (A0_2 : Option Addr) (c0_2 : Nat) (l0_2 : List Int) (A0_3 : Option Addr) (c0_3 : Nat) (l0_3 : List Int) (A0_4 : Option Addr) (c0_4 : Nat) (l0_4 : List (S95)) (A0_5 : Option Addr) (c0_5 : Nat) (l0_5 : List (S97)) (A1 : Option Addr) (c1 : Nat) (l1 : List Int) (a2 : Int) (r1 : Int) (r2 : Int) (r3 : Int) (r4 : Bool) (r5 : Bool) (w : World) (hr0_0 : Kd.C Kd.string w A0_0 l0_0.length l0_0) (hc0_0 : l0_0.length ≤ c0_0) (hr0_1 : Kd.C k92 w A0_1 l0_1.length l0_1) (hc0_1 : l0_1.length ≤ c0_1) (hr0_2 : Kd.C (Kd.int .i64) w A0_2 l0_2.length l0_2) (hc0_2 : l0_2.length ≤ c0_2) (hr0_3 : Kd.C (Kd.int .i64) w A0_3 l0_3.length l0_3) (hc0_3 : l0_3.length ≤ c0_3) (hr0_4 : Kd.C k95 w A0_4 l0_4.length l0_4) (hc0_4 : l0_4.length ≤ c0_4) (hr0_5 : Kd.C k97 w A0_5 l0_5.length l0_5) (hc0_5 : l0_5.length ≤ c0_5) (hr1 : Kd.C (Kd.int .i64) w A1 l1.length l1) (hc1 : l1.length ≤ c1) (h : impl_outRoute.f k l0_0 l0_1 l0_2 l0_3 l0_4 l0_5 l1 a2 = some (r1, r2, r3, r4, r5)) :
  Calls Try.prog 103 #[.agg #[.slice A0_0 l0_0.length c0_0, .slice A0_1 l0_1.length c0_1, .slice A0_2 l0_2.length c0_2, .slice A0_3 l0_3.length c0_3, .slice A0_4 l0_4.length c0_4, .slice A0_5 l0_5.length c0_5], .slice A1 l1.length c1, .int .i64 a2] w fun e w' => e = .returned (.tuple #[.agg #[.int .i64 r1, .int .i64 r2, .int .i64 r3, .bool r4], .bool r5]) ∧ Below w.heap.size w w' := by
 have hu38 := Try.underlying38
 have hu80 := Try.underlying80
 obtain ⟨HR0_0, HC0_0, HR0_1, HC0_1, HR0_2, HC0_2, HR0_3, HC0_3, HR0_4, HC0_4, HR0_5, HC0_5⟩ := as12 hr0_0 hc0_0 hr0_1 hc0_1 hr0_2 hc0_2 hr0_3 hc0_3 hr0_4 hc0_4 hr0_5 hc0_5
 clear hr0_0 hc0_0 hr0_1 hc0_1 hr0_2 hc0_2 hr0_3 hc0_3 hr0_4 hc0_4 hr0_5 hc0_5
 have HR1 := aM hr1
 have HC1 := aM hc1
 clear hr1 hc1
 have HB := aM (Below.refl w.heap.size w)
 have H : ((slices_Index_int_int.f k l0_3 a2).bind fun t339 => (if t339 < 0 then (some (0, 0, 0, false, false)) else (if 0 ≤ t339 then (if t339 < (l1.length : Int) then (if (rd l1 t339) = 0 then (some (0, 0, 0, false, false)) else (some ((-1), 100, 2, ((rd l1 t339) == 2), true))) else (none)) else (none)))) = some (r1, r2, r3, r4, r5) := h
 clear h
 replace H := bS H
 obtain ⟨t339, A40, H⟩ := H
 replace H : (if t339 < 0 then (some (0, 0, 0, false, false)) else (if 0 ≤ t339 then (if t339 < (l1.length : Int) then (if (rd l1 t339) = 0 then (some (0, 0, 0, false, false)) else (some ((-1), 100, 2, ((rd l1 t339) == 2), true))) else (none)) else (none))) = some (r1, r2, r3, r4, r5) := H
 have A4 := aM A40
 clear A40
 by_cases c5 : t339 < 0
 ·rw [if_pos c5] at H
  have c5b0 : decide (t339 < 0) = true := decide_eq_true c5
  clear c5
  simp only [Option.some.injEq, Prod.mk.injEq] at H
  obtain ⟨rfl, rfl, rfl, rfl, rfl⟩ := H
  go_enter Try.func103, Try.ntmps103
  go_wp2_with (first | ((with_reducible refine gate_dst (N := 3) rfl ?_); refine box_event rfl (N := 3) rfl (cs := #[.slice A0_0 l0_0.length c0_0, .slice A0_1 l0_1.length c0_1, .slice A0_2 l0_2.length c0_2, .slice A0_3 l0_3.length c0_3, .slice A0_4 l0_4.length c0_4, .slice A0_5 l0_5.length c0_5]) (t := 38) (by go_simp; done) ?_; intro gb337 hg w6 hbox hb; have BK337 := aM (hbox); have GW337 := bGE HB.out hg; have GE337 := bGE HB.out hg; replace HB := aB HB hb; clear hb hbox hg) | ((with_reducible refine gate_dst (N := 6) rfl ?_); refine box_event rfl (N := 6) rfl (cs := #[.int .i64 0, .int .i64 0, .int .i64 0, .bool false]) (t := 80) (by go_simp; done) ?_; intro gb338 hg w7 hbox hb; have BK338 := aM (hbox); have GW338 := bGE HB.out hg; have GE338 := bGE HB.out hg; replace HB := aB HB hb; have NB337_338 := bLT BK337.out hg; have NB338_337 := bGT BK337.out hg; replace BK337 := aK BK337 hb; clear hb hbox hg; have hnb8 := NB337_338.out; have hnc8 := NB338_337.out; obtain ⟨hcz9_0, hcz9_1, hcz9_2, hcz9_3, hcz9_4, hcz9_5⟩ := swc6 BK337.out; obtain ⟨hfz9_0, hfz9_1, hfz9_2, hfz9_3, hfz9_4, hfz9_5⟩ := swf6 BK337.out) | (go_at_call 118; (with_reducible refine (slices_Index_int_int.calls k _ _ l0_3 a2 t339 _ (Kd.C_below HR0_3.out HB.out) HC0_3.out A4.out).mono ?_); rintro e w' ⟨rfl, ⟨nd, rfl⟩⟩; (try (rw [drewN_self w7]; generalize hq_ : World.drewN w7 _ = w7; have n0_ : Aside0 (w7.heap[gb337]? = some (.cells #[.slice A0_0 l0_0.length c0_0, .slice A0_1 l0_1.length c0_1, .slice A0_2 l0_2.length c0_2, .slice A0_3 l0_3.length c0_3, .slice A0_4 l0_4.length c0_4, .slice A0_5 l0_5.length c0_5] 38 (0, 0))) := ⟨by rw [← hq_]; exact (by (with_reducible repeat (refine blk_drewN ?_ _)); exact BK337.out)⟩; have n1_ : Aside0 (w7.heap[gb338]? = some (.cells #[.int .i64 0, .int .i64 0, .int .i64 0, .bool false] 80 (0, 0))) := ⟨by rw [← hq_]; exact (by (with_reducible repeat (refine blk_drewN ?_ _)); exact BK338.out)⟩; have n2_ : Aside0 (Below w.heap.size w w7) := ⟨by rw [← hq_]; exact (by repeat ((with_reducible first | exact HB.out | apply pw_below_drewN)))⟩; clear BK337 BK338 HB hq_; have BK337 := n0_; have BK338 := n1_; have HB := n2_; clear n0_ n1_ n2_)); obtain ⟨hcz10_0, hcz10_1, hcz10_2, hcz10_3⟩ := swc4 BK338.out; obtain ⟨hfz10_0, hfz10_1, hfz10_2, hfz10_3⟩ := swf4 BK338.out))
  refine bodyPost_ret (results_ct rfl _ _ gb338 80 #[.int .i64 0, .int .i64 0, .int .i64 0, .bool false] (0, 0) _ rfl (by refine blk_put (cs := #[.int .i64 0, .int .i64 0, .int .i64 0, .bool false]) ?_ 3 _ rfl; refine blk_put (cs := #[.int .i64 0, .int .i64 0, .int .i64 0, .bool false]) ?_ 2 _ rfl; refine blk_put (cs := #[.int .i64 0, .int .i64 0, .int .i64 0, .bool false]) ?_ 1 _ rfl; refine blk_put (cs := #[.int .i64 0, .int .i64 0, .int .i64 0, .bool false]) ?_ 0 _ rfl; exact BK338.out) Try.underlying80 rfl (by kernel_rfl)) rfl ?_
  exact ⟨by rfl, by repeat ((with_reducible first | exact HB.out | refine below_set ?_ GE338.out))⟩
 rw [if_neg c5] at H
 have c5b0 : decide (t339 < 0) = false := decide_eq_false c5
 clear c5
 by_cases c11 : 0 ≤ t339
 rotate_left
 ·rw [if_neg c11] at H
  exact absurd H (by simp)
 rw [if_pos c11] at H
 have c11b0 : decide (0 ≤ t339) = true := decide_eq_true c11
 clear c11
 by_cases c12 : t339 < (l1.length : Int)
 rotate_left
 ·rw [if_neg c12] at H
  exact absurd H (by simp)
 rw [if_pos c12] at H
 have c12b0 : decide (t339 < (l1.length : Int)) = true := decide_eq_true c12
 clear c12
 by_cases c13 : (rd l1 t339) = 0
 ·rw [if_pos c13] at H
  have c13b0 : ((rd l1 t339) == 0) = true := beq_iff_eq.mpr c13
  have c13b1 : ((rd l1 t339) != 0) = false := bne_eq_false_iff_eq.mpr c13
  clear c13
  simp only [Option.some.injEq, Prod.mk.injEq] at H
  obtain ⟨rfl, rfl, rfl, rfl, rfl⟩ := H
  go_enter Try.func103, Try.ntmps103
  go_wp2_with (first | ((with_reducible refine gate_dst (N := 3) rfl ?_); refine box_event rfl (N := 3) rfl (cs := #[.slice A0_0 l0_0.length c0_0, .slice A0_1 l0_1.length c0_1, .slice A0_2 l0_2.length c0_2, .slice A0_3 l0_3.length c0_3, .slice A0_4 l0_4.length c0_4, .slice A0_5 l0_5.length c0_5]) (t := 38) (by go_simp; done) ?_; intro gb337 hg w14 hbox hb; have BK337 := aM (hbox); have GW337 := bGE HB.out hg; have GE337 := bGE HB.out hg; replace HB := aB HB hb; clear hb hbox hg) | ((with_reducible refine gate_dst (N := 6) rfl ?_); refine box_event rfl (N := 6) rfl (cs := #[.int .i64 0, .int .i64 0, .int .i64 0, .bool false]) (t := 80) (by go_simp; done) ?_; intro gb338 hg w15 hbox hb; have BK338 := aM (hbox); have GW338 := bGE HB.out hg; have GE338 := bGE HB.out hg; replace HB := aB HB hb; have NB337_338 := bLT BK337.out hg; have NB338_337 := bGT BK337.out hg; replace BK337 := aK BK337 hb; clear hb hbox hg; have hnb16 := NB337_338.out; have hnc16 := NB338_337.out; obtain ⟨hcz17_0, hcz17_1, hcz17_2, hcz17_3, hcz17_4, hcz17_5⟩ := swc6 BK337.out; obtain ⟨hfz17_0, hfz17_1, hfz17_2, hfz17_3, hfz17_4, hfz17_5⟩ := swf6 BK337.out) | (go_at_call 118; (with_reducible refine (slices_Index_int_int.calls k _ _ l0_3 a2 t339 _ (Kd.C_below HR0_3.out HB.out) HC0_3.out A4.out).mono ?_); rintro e w' ⟨rfl, ⟨nd, rfl⟩⟩; (try (rw [drewN_self w15]; generalize hq_ : World.drewN w15 _ = w15; have n0_ : Aside0 (w15.heap[gb337]? = some (.cells #[.slice A0_0 l0_0.length c0_0, .slice A0_1 l0_1.length c0_1, .slice A0_2 l0_2.length c0_2, .slice A0_3 l0_3.length c0_3, .slice A0_4 l0_4.length c0_4, .slice A0_5 l0_5.length c0_5] 38 (0, 0))) := ⟨by rw [← hq_]; exact (by (with_reducible repeat (refine blk_drewN ?_ _)); exact BK337.out)⟩; have n1_ : Aside0 (w15.heap[gb338]? = some (.cells #[.int .i64 0, .int .i64 0, .int .i64 0, .bool false] 80 (0, 0))) := ⟨by rw [← hq_]; exact (by (with_reducible repeat (refine blk_drewN ?_ _)); exact BK338.out)⟩; have n2_ : Aside0 (Below w.heap.size w w15) := ⟨by rw [← hq_]; exact (by repeat ((with_reducible first | exact HB.out | apply pw_below_drewN)))⟩; clear BK337 BK338 HB hq_; have BK337 := n0_; have BK338 := n1_; have HB := n2_; clear n0_ n1_ n2_)); have p340 : 0 ≤ (t339 : Int) := oD ‹_›; have q340 : t339 < (l1.length : Int) := oD ‹_›; obtain ⟨ad340, e340, hx340_0⟩ := Kd.at_int HR1.out t339 p340 q340; cases e340; replace hx340_0 := swB HB.out hx340_0; replace p340 := eq_true p340; replace q340 := eq_true q340; obtain ⟨hcz18_0, hcz18_1, hcz18_2, hcz18_3⟩ := swc4 BK338.out; obtain ⟨hfz18_0, hfz18_1, hfz18_2, hfz18_3⟩ := swf4 BK338.out))
  refine bodyPost_ret (results_ct rfl _ _ gb338 80 #[.int .i64 0, .int .i64 0, .int .i64 0, .bool false] (0, 0) _ rfl (by refine blk_put (cs := #[.int .i64 0, .int .i64 0, .int .i64 0, .bool false]) ?_ 3 _ rfl; refine blk_put (cs := #[.int .i64 0, .int .i64 0, .int .i64 0, .bool false]) ?_ 2 _ rfl; refine blk_put (cs := #[.int .i64 0, .int .i64 0, .int .i64 0, .bool false]) ?_ 1 _ rfl; refine blk_put (cs := #[.int .i64 0, .int .i64 0, .int .i64 0, .bool false]) ?_ 0 _ rfl; exact BK338.out) Try.underlying80 rfl (by kernel_rfl)) rfl ?_
  exact ⟨by rfl, by repeat ((with_reducible first | exact HB.out | refine below_set ?_ GE338.out))⟩
 rw [if_neg c13] at H
 have c13b0 : ((rd l1 t339) == 0) = false := beq_eq_false_iff_ne.mpr c13
 have c13b1 : ((rd l1 t339) != 0) = true := bne_iff_ne.mpr c13
 simp only [Option.some.injEq, Prod.mk.injEq] at H
 obtain ⟨rfl, rfl, rfl, rfl, rfl⟩ := H
 go_enter Try.func103, Try.ntmps103
 go_wp2_with (first | ((with_reducible refine gate_dst (N := 3) rfl ?_); refine box_event rfl (N := 3) rfl (cs := #[.slice A0_0 l0_0.length c0_0, .slice A0_1 l0_1.length c0_1, .slice A0_2 l0_2.length c0_2, .slice A0_3 l0_3.length c0_3, .slice A0_4 l0_4.length c0_4, .slice A0_5 l0_5.length c0_5]) (t := 38) (by go_simp; done) ?_; intro gb337 hg w19 hbox hb; have BK337 := aM (hbox); have GW337 := bGE HB.out hg; have GE337 := bGE HB.out hg; replace HB := aB HB hb; clear hb hbox hg) | ((with_reducible refine gate_dst (N := 6) rfl ?_); refine box_event rfl (N := 6) rfl (cs := #[.int .i64 0, .int .i64 0, .int .i64 0, .bool false]) (t := 80) (by go_simp; done) ?_; intro gb338 hg w20 hbox hb; have BK338 := aM (hbox); have GW338 := bGE HB.out hg; have GE338 := bGE HB.out hg; replace HB := aB HB hb; have NB337_338 := bLT BK337.out hg; have NB338_337 := bGT BK337.out hg; replace BK337 := aK BK337 hb; clear hb hbox hg; have hnb21 := NB337_338.out; have hnc21 := NB338_337.out; obtain ⟨hcz22_0, hcz22_1, hcz22_2, hcz22_3, hcz22_4, hcz22_5⟩ := swc6 BK337.out; obtain ⟨hfz22_0, hfz22_1, hfz22_2, hfz22_3, hfz22_4, hfz22_5⟩ := swf6 BK337.out) | (go_at_call 118; (with_reducible refine (slices_Index_int_int.calls k _ _ l0_3 a2 t339 _ (Kd.C_below HR0_3.out HB.out) HC0_3.out A4.out).mono ?_); rintro e w' ⟨rfl, ⟨nd, rfl⟩⟩; (try (rw [drewN_self w20]; generalize hq_ : World.drewN w20 _ = w20; have n0_ : Aside0 (w20.heap[gb337]? = some (.cells #[.slice A0_0 l0_0.length c0_0, .slice A0_1 l0_1.length c0_1, .slice A0_2 l0_2.length c0_2, .slice A0_3 l0_3.length c0_3, .slice A0_4 l0_4.length c0_4, .slice A0_5 l0_5.length c0_5] 38 (0, 0))) := ⟨by rw [← hq_]; exact (by (with_reducible repeat (refine blk_drewN ?_ _)); exact BK337.out)⟩; have n1_ : Aside0 (w20.heap[gb338]? = some (.cells #[.int .i64 0, .int .i64 0, .int .i64 0, .bool false] 80 (0, 0))) := ⟨by rw [← hq_]; exact (by (with_reducible repeat (refine blk_drewN ?_ _)); exact BK338.out)⟩; have n2_ : Aside0 (Below w.heap.size w w20) := ⟨by rw [← hq_]; exact (by repeat ((with_reducible first | exact HB.out | apply pw_below_drewN)))⟩; clear BK337 BK338 HB hq_; have BK337 := n0_; have BK338 := n1_; have HB := n2_; clear n0_ n1_ n2_)); have p340 : 0 ≤ (t339 : Int) := oD ‹_›; have q340 : t339 < (l1.length : Int) := oD ‹_›; obtain ⟨ad340, e340, hx340_0⟩ := Kd.at_int HR1.out t339 p340 q340; cases e340; replace hx340_0 := swB HB.out hx340_0; replace p340 := eq_true p340; replace q340 := eq_true q340; have p341 : 0 ≤ (t339 : Int) := oD ‹_›; have q341 : t339 < (l1.length : Int) := oD ‹_›; obtain ⟨ad341, e341, hx341_0⟩ := Kd.at_int HR1.out t339 p341 q341; obtain rfl : ad340 = ad341 := (by injection e341); replace hx341_0 := swB HB.out hx341_0; replace p341 := eq_true p341; replace q341 := eq_true q341; obtain ⟨hcz23_0, hcz23_1, hcz23_2, hcz23_3⟩ := swc4 BK338.out; obtain ⟨hfz23_0, hfz23_1, hfz23_2, hfz23_3⟩ := swf4 BK338.out))
 refine bodyPost_ret (results_ct rfl _ _ gb338 80 #[.int .i64 (-1), .int .i64 100, .int .i64 2, .bool ((rd l1 t339) == 2)] (0, 0) _ rfl (by refine blk_put (cs := #[.int .i64 (-1), .int .i64 100, .int .i64 2, .bool false]) ?_ 3 _ rfl; refine blk_put (cs := #[.int .i64 (-1), .int .i64 100, .int .i64 0, .bool false]) ?_ 2 _ rfl; refine blk_put (cs := #[.int .i64 (-1), .int .i64 0, .int .i64 0, .bool false]) ?_ 1 _ rfl; refine blk_put (cs := #[.int .i64 0, .int .i64 0, .int .i64 0, .bool false]) ?_ 0 _ rfl; exact BK338.out) Try.underlying80 rfl (by kernel_rfl)) rfl ?_
 exact ⟨by rfl, by repeat ((with_reducible first | exact HB.out | refine below_set ?_ GE338.out))⟩
def impl_comesTo.l0 : Nat → List (S80) → Int → Int → Int → Int → Option (Bool)
 | 0, _, _, _, _, _ => none
 | k + 1, x0, x2, x7, x11, x12 => if x12 < x11 then (if x7 = x2 then (some true) else (if x7 < 0 then (some false) else (if 0 ≤ x7 then (if x7 < (x0.length : Int) then (impl_comesTo.l0 k x0 x2 ((rd_T80 x0 x7).f0) x11 (wrap64 (x12 + 1))) else (none)) else (none)))) else (some true)
def impl_comesTo.f (k : Nat) (l0 : List (S80)) (a1 : Int) (a2 : Int) : Option (Bool) := impl_comesTo.l0 k l0 a2 a1 (wrap64 ((l0.length : Int) + 1)) 0
theorem impl_comesTo.calls (k : Nat) (A0 : Option Addr) (c0 : Nat) (l0 : List (S80)) (a1 : Int) (a2 : Int) (r : Bool) (w : World) (hr0 : Kd.C k80 w A0 l0.length l0) (hc0 : l0.length ≤ c0) (h : impl_comesTo.f k l0 a1 a2 = some r) :
  Calls Try.prog 104 #[.slice A0 l0.length c0, .int .i64 a1, .int .i64 a2] w fun e w' => e = .returned (.bool r) ∧ Drawn0 w w' := by
 have HR0 := aM hr0
 have HC0 := aM hc0
 clear hr0 hc0
 have H : (impl_comesTo.l0 k l0 a2 a1 (wrap64 ((l0.length : Int) + 1)) 0) = some r := h
 clear h
 have H' := aM H
 clear H
 go_enter Try.func104, Try.ntmps104
 go_wp2
 go_loopg [7, 12] k (fun kq v7 v12 w' => ∃ (x7_1 : Int) (x12_1 : Int), v7 = .int .i64 x7_1 ∧ v12 = .int .i64 x12_1 ∧ Aside0 (impl_comesTo.l0 kq l0 a2 x7_1 (wrap64 ((l0.length : Int) + 1)) x12_1 = some r) ∧ Aside0 (kq ≤ k) ∧ Drawn0 w w')
 case atStart => exact ⟨(a1), (0), (by rfl), (by rfl), H', ⟨Nat.le_refl _⟩, by repeat (exact Drawn0.refl _)⟩
 clear H'
 obtain ⟨x7_1, x12_1, rfl, rfl, HA, HK1, ⟨m1, rfl⟩⟩ := hrel
 cases gk with
 | zero => exact absurd HA.out (by simp [impl_comesTo.l0])
 | succ k1 =>
  have H := HA.out
  clear HA
  simp only [impl_comesTo.l0] at H
  by_cases c4 : x12_1 < (wrap64 ((l0.length : Int) + 1))
  rotate_left
  ·rw [if_neg c4] at H
   have c4b0 : decide (x12_1 < (wrap64 ((l0.length : Int) + 1))) = false := decide_eq_false c4
   clear c4
   obtain rfl := Option.some.inj H
   go_wp2
   go_ret
   exact ⟨by rfl, by repeat (first | exact Drawn0.refl _ | apply Drawn0.step)⟩
  rw [if_pos c4] at H
  have c4b0 : decide (x12_1 < (wrap64 ((l0.length : Int) + 1))) = true := decide_eq_true c4
  clear c4
  by_cases c5 : x7_1 = a2
  ·rw [if_pos c5] at H
   have c5b0 : (x7_1 == a2) = true := beq_iff_eq.mpr c5
   have c5b1 : (x7_1 != a2) = false := bne_eq_false_iff_eq.mpr c5
   clear c5
   obtain rfl := Option.some.inj H
   go_wp2
   go_ret
   exact ⟨by rfl, by repeat (first | exact Drawn0.refl _ | apply Drawn0.step)⟩
  rw [if_neg c5] at H
  have c5b0 : (x7_1 == a2) = false := beq_eq_false_iff_ne.mpr c5
  have c5b1 : (x7_1 != a2) = true := bne_iff_ne.mpr c5
  by_cases c6 : x7_1 < 0
  ·rw [if_pos c6] at H
   have c6b0 : decide (x7_1 < 0) = true := decide_eq_true c6
   clear c6
   obtain rfl := Option.some.inj H
   go_wp2
   go_ret
   exact ⟨by rfl, by repeat (first | exact Drawn0.refl _ | apply Drawn0.step)⟩
  rw [if_neg c6] at H
  have c6b0 : decide (x7_1 < 0) = false := decide_eq_false c6
  clear c6
  by_cases c7 : 0 ≤ x7_1
  rotate_left
  ·rw [if_neg c7] at H
   exact absurd H (by simp)
  rw [if_pos c7] at H
  have c7b0 : decide (0 ≤ x7_1) = true := decide_eq_true c7
  clear c7
  by_cases c8 : x7_1 < (l0.length : Int)
  rotate_left
  ·rw [if_neg c8] at H
   exact absurd H (by simp)
  rw [if_pos c8] at H
  have c8b0 : decide (x7_1 < (l0.length : Int)) = true := decide_eq_true c8
  clear c8
  have H' := aM H
  clear H
  have p342 : 0 ≤ (x7_1 : Int) := oD ‹_›
  have q342 : x7_1 < (l0.length : Int) := oD ‹_›
  obtain ⟨ad342, e342, hx342_0, hx342_1, hx342_2, hx342_3⟩ := at_T80 HR0.out x7_1 p342 q342
  cases e342
  replace p342 := eq_true p342
  replace q342 := eq_true q342
  go_wp2
  go_roundg k1
  case measure => have := HK1.out; omega
  case rel => exact ⟨((rd_T80 l0 x7_1).f0), (wrap64 (x12_1 + 1)), (by rfl), (by rfl), H', ⟨by have := HK1.out; omega⟩, by repeat (first | exact Drawn0.refl _ | apply Drawn0.step)⟩
def s105_1_T : Bool × List (List Nat × List Nat) := (true, [([], []), ([], []), ([1], [1]), ([], []), ([3], [3]), ([], []), ([], []), ([], []), ([5, 6, 7], [5, 6, 7]), ([4, 8], [4, 8]), ([9], [9]), ([10], [10]), ([2, 11], [2, 11]), ([], []), ([13], [13]), ([0, 12, 14], [0, 12, 14]), ([], []), ([16, 15, 8, 0, 1, 2, 3, 4, 5, 6, 7, 8, 9, 10, 11, 12, 13, 14, 15, 16], [15, 16])])
theorem s105_1_tab : rtab .any (opsOf Try.f105 1) = s105_1_T := by kernel_rfl
def impI (a b : Int) : List S95 → Int → Bool → Option (Int × Bool)
 | [], p, m => some (p, m)
 | x :: r, p, m => if ((((x.f0 != a) || (x.f1 != b)) || ((x.f2 == 1) && (!m))) || ((x.f2 == 2) && m)) = true then impI a b r p m else (if (x.f3 == 1) = true then none else (if (x.f3 == 2) = true then impI a b r x.f4 m else (if (x.f3 == 3) = true then impI a b r p true else (if (x.f3 == 4) = true then impI a b r p false else impI a b r p m))))
def resI (a L : Int) : Option (Int × Bool) → Int × Int × Int × Bool × Bool
 | none => (0, 0, 0, false, false)
 | some q => (a, q.1, L, q.2, true)
def impl_imported.f (k : Nat) (l0_0 : List ByteArray) (l0_1 : List S92) (l0_2 : List Int) (l0_3 : List Int) (l0_4 : List S95) (l0_5 : List S97) (a1 : Int) (a2 : Int) (a3_0 : Int) (a3_1 : Int) (a3_2 : Int) (a3_3 : Bool) : Option (Int × Int × Int × Bool × Bool) := if 0 ≤ (linkI l0_1 a1 a2) ∧ (linkI l0_1 a1 a2) < (l0_1.length : Int) then some (resI a2 (wrap64 (a3_2 + (rd_T92 l0_1 (linkI l0_1 a1 a2)).f2)) (impI a1 a2 l0_4 100 a3_3)) else none
theorem impl_imported.calls (k : Nat) (A0_0 : Option Addr) (c0_0 : Nat) (l0_0 : List ByteArray) (A0_1 : Option Addr) (c0_1 : Nat) (l0_1 : List S92) (A0_2 : Option Addr) (c0_2 : Nat) (l0_2 : List Int) (A0_3 : Option Addr) (c0_3 : Nat) (l0_3 : List Int) (A0_4 : Option Addr) (c0_4 : Nat) (l0_4 : List S95) (A0_5 : Option Addr) (c0_5 : Nat) (l0_5 : List S97) (a1 : Int) (a2 : Int) (a3_0 : Int) (a3_1 : Int) (a3_2 : Int) (a3_3 : Bool) (r1 : Int) (r2 : Int) (r3 : Int) (r4 : Bool) (r5 : Bool) (w : World) (hr0_0 : Kd.C Kd.string w A0_0 l0_0.length l0_0) (hc0_0 : l0_0.length ≤ c0_0) (hr0_1 : Kd.C k92 w A0_1 l0_1.length l0_1) (hc0_1 : l0_1.length ≤ c0_1) (hr0_2 : Kd.C (Kd.int .i64) w A0_2 l0_2.length l0_2) (hc0_2 : l0_2.length ≤ c0_2) (hr0_3 : Kd.C (Kd.int .i64) w A0_3 l0_3.length l0_3) (hc0_3 : l0_3.length ≤ c0_3) (hr0_4 : Kd.C k95 w A0_4 l0_4.length l0_4) (hc0_4 : l0_4.length ≤ c0_4) (hr0_5 : Kd.C k97 w A0_5 l0_5.length l0_5) (hc0_5 : l0_5.length ≤ c0_5) (h : impl_imported.f k l0_0 l0_1 l0_2 l0_3 l0_4 l0_5 a1 a2 a3_0 a3_1 a3_2 a3_3 = some (r1, r2, r3, r4, r5)) :
  Calls Try.prog 105 #[.agg #[.slice A0_0 l0_0.length c0_0, .slice A0_1 l0_1.length c0_1, .slice A0_2 l0_2.length c0_2, .slice A0_3 l0_3.length c0_3, .slice A0_4 l0_4.length c0_4, .slice A0_5 l0_5.length c0_5], .int .i64 a1, .int .i64 a2, .agg #[.int .i64 a3_0, .int .i64 a3_1, .int .i64 a3_2, .bool a3_3]] w fun e w' => e = .returned (.tuple #[.agg #[.int .i64 r1, .int .i64 r2, .int .i64 r3, .bool r4], .bool r5]) ∧ Below w.heap.size w w' := by
 have hu38 := Try.underlying38
 have hu80 := Try.underlying80
 have hu92 := Try.underlying92
 have hu95 := Try.underlying95
 have HN : Aside0 (Kd.C Kd.string w A0_0 l0_0.length l0_0 ∧ l0_0.length ≤ c0_0 ∧ Kd.C k92 w A0_1 l0_1.length l0_1 ∧ l0_1.length ≤ c0_1 ∧ Kd.C (Kd.int .i64) w A0_2 l0_2.length l0_2 ∧ l0_2.length ≤ c0_2 ∧ Kd.C (Kd.int .i64) w A0_3 l0_3.length l0_3 ∧ l0_3.length ≤ c0_3 ∧ Kd.C k95 w A0_4 l0_4.length l0_4 ∧ l0_4.length ≤ c0_4 ∧ Kd.C k97 w A0_5 l0_5.length l0_5 ∧ l0_5.length ≤ c0_5) := ⟨hr0_0, hc0_0, hr0_1, hc0_1, hr0_2, hc0_2, hr0_3, hc0_3, hr0_4, hc0_4, hr0_5, hc0_5⟩
 have HM : Aside0 (l0_1.length ≤ 9223372036854775807 ∧ l0_4.length ≤ 9223372036854775807) := ⟨Kd.C_max hr0_1, Kd.C_max hr0_4⟩
 clear hr0_0 hc0_0 hr0_1 hc0_1 hr0_2 hc0_2 hr0_3 hc0_3 hr0_4 hc0_4 hr0_5 hc0_5
 have HB := aM (Below.refl w.heap.size w)
 unfold impl_imported.f at h
 obtain ⟨t, ht⟩ : ∃ t, linkI l0_1 a1 a2 = t := ⟨_, rfl⟩
 rw [ht] at h
 by_cases hbd : 0 ≤ t ∧ t < (l0_1.length : Int)
 rotate_left
 ·rw [if_neg hbd] at h
  cases h
 rw [if_pos hbd] at h
 obtain ⟨ad, ea, hy0, hy1, hy2⟩ := at_T92 HN.out.2.2.1 t hbd.1 hbd.2
 cases ea
 have HCO := aM hy2
 have HMB := aM hbd
 replace h := Option.some.inj h
 generalize rd_T92 l0_1 t = y at h HCO
 obtain ⟨y0, y1, cost⟩ := y
 dsimp only at h HCO
 obtain ⟨R, hR⟩ : ∃ R, impI a1 a2 l0_4 100 a3_3 = R := ⟨_, rfl⟩
 rw [hR] at h
 have HR := aM h
 have HI : Aside0 (impI a1 a2 (l0_4.drop 0) 100 a3_3 = R) := ⟨by rw [List.drop_zero]; exact hR⟩
 have HC : Aside0 (∀ V : World, Below w.heap.size w V → Calls Try.prog 89 #[.agg #[.slice A0_0 l0_0.length c0_0, .slice (some ad) l0_1.length c0_1, .slice A0_2 l0_2.length c0_2, .slice A0_3 l0_3.length c0_3, .slice A0_4 l0_4.length c0_4, .slice A0_5 l0_5.length c0_5], .int .i64 a1, .int .i64 a2] V fun e w' => e = .returned (.int .i64 t) ∧ Below V.heap.size V w') := ⟨fun V hV => impl_linkOf.calls A0_0 c0_0 l0_0 (some ad) c0_1 l0_1 A0_2 c0_2 l0_2 A0_3 c0_3 l0_3 A0_4 c0_4 l0_4 A0_5 c0_5 l0_5 a1 a2 t V (Kd.C_below HN.out.1 hV) HN.out.2.1 (Kd.C_below HN.out.2.2.1 hV) HN.out.2.2.2.1 (Kd.C_below HN.out.2.2.2.2.1 hV) HN.out.2.2.2.2.2.1 (Kd.C_below HN.out.2.2.2.2.2.2.1 hV) HN.out.2.2.2.2.2.2.2.1 (Kd.C_below HN.out.2.2.2.2.2.2.2.2.1 hV) HN.out.2.2.2.2.2.2.2.2.2.1 (Kd.C_below HN.out.2.2.2.2.2.2.2.2.2.2.1 hV) HN.out.2.2.2.2.2.2.2.2.2.2.2 (by unfold impl_linkOf.f; exact congrArg some ht)⟩
 clear hy0 hy1 hy2 h hR ht hbd
 go_enter Try.func105, Try.ntmps105
 go_wp2_with (first | ((with_reducible refine gate_dst (N := 4) rfl ?_); refine box_event rfl (N := 4) rfl (cs := #[.slice A0_0 l0_0.length c0_0, .slice (some ad) l0_1.length c0_1, .slice A0_2 l0_2.length c0_2, .slice A0_3 l0_3.length c0_3, .slice A0_4 l0_4.length c0_4, .slice A0_5 l0_5.length c0_5]) (t := 38) (by go_simp; done) ?_; intro gN hg_ wN hbox hbb; have GEN := aM (show w.heap.size ≤ gN by rw [hg_]; exact HB.out.size); replace HB := aM (HB.out.trans (hbb.mono HB.out.size)); clear hbb hg_; have BN := aM hbox; clear hbox; obtain ⟨cN0, cN1, cN2, cN3, cN4, cN5⟩ := box6 BN.out) | ((with_reducible refine gate_dst (N := 7) rfl ?_); refine box_event rfl (N := 7) rfl (cs := #[.int .i64 a3_0, .int .i64 a3_1, .int .i64 a3_2, .bool a3_3]) (t := 80) (by go_simp; done) ?_; intro gP hg_ wP hbox hbb; clear cN0 cN1 cN2 cN3 cN4 cN5; have GEP := aM (show w.heap.size ≤ gP by rw [hg_]; exact HB.out.size); have NENP := aM (show gN ≠ gP by rw [hg_]; exact Nat.ne_of_lt (blk_lt BN.out)); replace HB := aM (HB.out.trans (hbb.mono HB.out.size)); replace BN := aM (blk_below BN.out hbb); clear hbb hg_; have BP := aM hbox; clear hbox; obtain ⟨cN0, cN1, cN2, cN3, cN4, cN5⟩ := box6 BN.out; obtain ⟨cP0, cP1, cP2, cP3⟩ := box4 BP.out) | ((with_reducible refine gate_dst (N := 8) rfl ?_); refine box_event rfl (N := 8) rfl (cs := #[.int .i64 0, .int .i64 0, .int .i64 0, .bool false]) (t := 80) (by go_simp; done) ?_; intro gO hg_ wO hbox hbb; clear cN0 cN1 cN2 cN3 cN4 cN5 cP0 cP1 cP2 cP3; have GEO := aM (show w.heap.size ≤ gO by rw [hg_]; exact HB.out.size); have NENO := aM (show gN ≠ gO by rw [hg_]; exact Nat.ne_of_lt (blk_lt BN.out)); have NEPO := aM (show gP ≠ gO by rw [hg_]; exact Nat.ne_of_lt (blk_lt BP.out)); replace HB := aM (HB.out.trans (hbb.mono HB.out.size)); replace BN := aM (blk_below BN.out hbb); replace BP := aM (blk_below BP.out hbb); clear hbb hg_; have BO := aM hbox; clear hbox; obtain ⟨cN0, cN1, cN2, cN3, cN4, cN5⟩ := box6 BN.out; obtain ⟨cP0, cP1, cP2, cP3⟩ := box4 BP.out; obtain ⟨cO0, cO1, cO2, cO3⟩ := box4 BO.out))
 clear cN0 cN1 cN2 cN3 cN4 cN5 cP0 cP1 cP2 cP3 cO0 cO1 cO2 cO3
 have HW : ∀ W, Below wO.drew.heap.size wO.drew W → Below w.heap.size w W := fun W hW => (below_drew1 HB.out).trans (hW.mono HB.out.size)
 have dN := fun (W : World) (hW : Below wO.drew.heap.size wO.drew W) => blk_below (blk_drew BN.out) hW
 have dP := fun (W : World) (hW : Below wO.drew.heap.size wO.drew W) => blk_below (blk_drew BP.out) hW
 have dO := fun (W : World) (hW : Below wO.drew.heap.size wO.drew W) => blk_below (blk_drew BO.out) hW
 refine any_tail [some 13, some 14, some 15, some 16, some 17, some 18, some 19, some 20, some 21, some 22, some 23, some 24, some 25, some 26, some 27, some 28, some 10, none] 83 17 [0, 0, 2, 0, 8, 0, 0, 0, 224, 504, 1016, 2040, 4094, 0, 8192, 32767, 0, 131071] [VP.eq (.int .i64 (a2)), VP.eq (.pointer (some ⟨gP, 2, none⟩)), VP.eq (.int .i64 (a3_2)), VP.eq (.pointer (some ⟨gN, 1, none⟩)), VP.eq (.slice (some ad) l0_1.length c0_1), VP.eq (.agg #[.slice A0_0 l0_0.length c0_0, .slice (some ad) l0_1.length c0_1, .slice A0_2 l0_2.length c0_2, .slice A0_3 l0_3.length c0_3, .slice A0_4 l0_4.length c0_4, .slice A0_5 l0_5.length c0_5]), VP.eq (.int .i64 (a1)), VP.eq (.int .i64 (a2)), VP.eq (.int .i64 (t)), VP.eq (.pointer (some (ad.add (t.toNat * 3)))), VP.eq (.pointer (some (⟨(ad.add (t.toNat * 3)).block, (ad.add (t.toNat * 3)).off + 2, none⟩))), VP.eq (.int .i64 (cost)), VP.eq (.int .i64 (wrap64 (a3_2 + cost))), VP.eq (.pointer (some ⟨gP, 3, none⟩)), VP.eq (.bool (a3_3)), VP.eq (.agg #[.int .i64 (a2), .int .i64 (100), .int .i64 (wrap64 (a3_2 + cost)), .bool (a3_3)]), VP.box (wO.heap.size) #[.int .i64 0, .int .i64 0, .int .i64 0, .bool false] 80] rfl s105_1_tab rfl rfl (by kernel_rfl) rfl ⟨?_, ?_, ?_, ?_, ?_, ?_, ?_, ?_, ?_, ?_, ?_, ?_, ?_, ?_, ?_, ?_, ?_, trivial⟩ ?_
 ·exact fun _ W _ hW _ hb hd _ hK _ => gd_step (C := true) wn_ (fun _ => x_move rfl (hb 2)) (hK _ W rfl (Below.refl _ _))
 ·exact fun _ W _ hW _ hb hd _ hK _ => gd_step (C := true) wn_ (fun _ => x_fa80 rfl (oD (by kernel_rfl)) (hb 7)) (hK _ W rfl (Below.refl _ _))
 ·exact fun _ W _ hW _ hb hd _ hK _ => gd_step (C := true) wn_ (fun _ => x_ld3 rfl (hd 1 14) ((blk_cell (dP W hW) 2).trans rfl)) (hK _ W rfl (Below.refl _ _))
 ·exact fun _ W _ hW _ hb hd _ hK _ => gd_step (C := true) wn_ (fun _ => x_fa38 rfl (oD (by kernel_rfl)) (hb 4)) (hK _ W rfl (Below.refl _ _))
 ·exact fun _ W _ hW _ hb hd _ hK _ => gd_step (C := true) wn_ (fun _ => x_ld34 rfl (hd 3 16) ((blk_cell (dN W hW) 1).trans rfl)) (hK _ W rfl (Below.refl _ _))
 ·exact fun _ W _ hW _ hb hd _ hK _ => gd_step (C := true) wn_ (fun _ => x_ld38 rfl (hb 4) (dN W hW)) (hK _ W rfl (Below.refl _ _))
 ·exact fun _ W _ hW _ hb hd _ hK _ => gd_step (C := true) wn_ (fun _ => x_move rfl (hb 1)) (hK _ W rfl (Below.refl _ _))
 ·exact fun _ W _ hW _ hb hd _ hK _ => gd_step (C := true) wn_ (fun _ => x_move rfl (hb 2)) (hK _ W rfl (Below.refl _ _))
 ·intro bq W B hW hB hb hd K hK hK2; exact gc_step (C := true) wn_ (fun _ => ⟨x_call Try.func89 (by kernel_rfl) rfl rfl (args3 (hd 5 18) (hd 6 19) (hd 7 20)), (HC.out W (HW W hW)).mono (fun e_ W_ h_ => ⟨h_.1, h_.2⟩)⟩) (fun W_ hb_ => hK _ W_ rfl hb_)
 ·exact fun _ W _ hW _ hb hd _ hK _ => gd_step (C := true) wn_ (fun _ => x_ix34 rfl (hd 4 17) (hd 8 21) HMB.out.1 HMB.out.2 HM.out.1) (hK _ W rfl (Below.refl _ _))
 ·exact fun _ W _ hW _ hb hd _ hK _ => gd_step (C := true) wn_ (fun _ => x_fb92 rfl (hd 9 22)) (hK _ W rfl (Below.refl _ _))
 ·exact fun _ W _ hW _ hb hd _ hK _ => gd_step (C := true) wn_ (fun _ => x_ld3 rfl (hd 10 23) (((HW W hW).cell (World.block_lt_of_cell? w _ HCO.out)).trans HCO.out)) (hK _ W rfl (Below.refl _ _))
 ·exact fun _ W _ hW _ hb hd _ hK _ => gd_step (C := true) wn_ (fun _ => x_add rfl (hd 2 15) (hd 11 24) (i64_w _)) (hK _ W rfl (Below.refl _ _))
 ·exact fun _ W _ hW _ hb hd _ hK _ => gd_step (C := true) wn_ (fun _ => x_fa80 rfl (oD (by kernel_rfl)) (hb 7)) (hK _ W rfl (Below.refl _ _))
 ·exact fun _ W _ hW _ hb hd _ hK _ => gd_step (C := true) wn_ (fun _ => x_ld4 rfl (hd 13 26) ((blk_cell (dP W hW) 3).trans rfl)) (hK _ W rfl (Below.refl _ _))
 ·exact fun _ W _ hW _ hb hd _ hK _ => gd_step (C := true) wn_ (fun _ => x_bdr rfl (hd 0 13) (hd 12 25) (hd 14 27)) (hK _ W rfl (Below.refl _ _))
 ·intro bq W B hW hB hb hd K hK hK2; refine al_step80 rfl rfl (fun W' h_ hb_ hl_ => hK2 _ W' ?_ hb_ hl_); obtain ⟨g_, e_, h1_, h2_, h3_⟩ := h_; exact ⟨g_, e_, Nat.le_trans hW.size h1_, .inr h2_, h3_⟩
 intro vals F W B hF hW hBB hV
 obtain ⟨gX, e9, hg9, -, hx9⟩ := hV 16 10 (oD (by kernel_rfl)) rfl
 have e28 : vals 28 = .agg #[.int .i64 a2, .int .i64 100, .int .i64 (wrap64 (a3_2 + cost)), .bool a3_3] := hV 15 28 (oD (by kernel_rfl)) rfl
 have GEX := aM (Nat.le_trans HB.out.size hg9)
 have NENX := aM (show gN ≠ gX from Nat.ne_of_lt (Nat.lt_of_lt_of_le (blk_lt BN.out) hg9))
 have NEPX := aM (show gP ≠ gX from Nat.ne_of_lt (Nat.lt_of_lt_of_le (blk_lt BP.out) hg9))
 have NEOX := aM (show gO ≠ gX from Nat.ne_of_lt (Nat.lt_of_lt_of_le (blk_lt BO.out) hg9))
 replace HB := aM (HW W hW)
 replace BN := aM (dN W hW)
 replace BP := aM (dP W hW)
 replace BO := aM (dO W hW)
 have BX := aM hx9
 clear hV hBB hg9 hx9 hW HW dN dP dO
 rw [hF]
 clear hF
 simp only [List.take, fillA, Act.put, List.setIfInBounds_toArray, List.set_cons_zero, List.set_cons_succ, List.drop_succ_cons, List.drop_zero, e9, e28]
 clear e9 e28 BP
 obtain ⟨cN0, cN1, cN2, cN3, cN4, cN5⟩ := box6 BN.out
 obtain ⟨cO0, cO1, cO2, cO3⟩ := box4 BO.out
 obtain ⟨cX0, cX1, cX2, cX3⟩ := box4 BX.out
 go_wp2_with (((with_reducible refine gate_store (t := 80) (p := 10) rfl ?_); have z0 := blk_frozen BX.out 0; have z1 := blk_frozen BX.out 1; have z2 := blk_frozen BX.out 2; have z3 := blk_frozen BX.out 3; refine store_event (t := 80) (p := 10) (v := .tmp 28) (w1 := ((((W.setCell ⟨gX, 0, none⟩ (.int .i64 a2)).setCell ⟨gX, 1, none⟩ (.int .i64 100)).setCell ⟨gX, 2, none⟩ (.int .i64 (wrap64 (a3_2 + cost)))).setCell ⟨gX, 3, none⟩ (.bool a3_3))) ?hg ?ho ?hn ?hr ?_; (case ho => rfl); (case hg => rfl); (case hn => rfl); (case hr => (go_simp; done)); clear z0 z1 z2 z3; clear cN0 cN1 cN2 cN3 cN4 cN5 cO0 cO1 cO2 cO3 cX0 cX1 cX2 cX3; intro w9 hw_; obtain ⟨hbk, hkb, hkw⟩ := boxv4 (v0 := .int .i64 a2) (v1 := .int .i64 100) (v2 := .int .i64 (wrap64 (a3_2 + cost))) (v3 := .bool a3_3) BX.out; rw [← hw_] at hbk hkb hkw; clear hw_; replace HB := aM (hkw _ HB.out GEX.out); replace BN := aM (blk_kept BN.out hkb (fun h_ => NENX.out h_)); replace BO := aM (blk_kept BO.out hkb (fun h_ => NEOX.out h_)); replace BX := aM (hbk); clear hbk hkb hkw; obtain ⟨cN0, cN1, cN2, cN3, cN4, cN5⟩ := box6 BN.out; obtain ⟨cO0, cO1, cO2, cO3⟩ := box4 BO.out; obtain ⟨cX0, cX1, cX2, cX3⟩ := box4 BX.out))
 clear cN0 cN1 cN2 cN3 cN4 cN5 cO0 cO1 cO2 cO3 cX0 cX1 cX2 cX3
 go_loopg [32] l0_4.length (fun gg sc wr => ∃ (kk : Nat) (p : Int) (m : Bool), kk ≤ l0_4.length ∧ l0_4.length - kk ≤ gg ∧ sc = .int .i64 kk ∧ Aside0 (Below w.heap.size w wr) ∧ Aside0 (wr.heap[gN]? = some (.cells #[.slice A0_0 l0_0.length c0_0, .slice (some ad) l0_1.length c0_1, .slice A0_2 l0_2.length c0_2, .slice A0_3 l0_3.length c0_3, .slice A0_4 l0_4.length c0_4, .slice A0_5 l0_5.length c0_5] 38 (0, 0))) ∧ Aside0 (wr.heap[gO]? = some (.cells #[.int .i64 0, .int .i64 0, .int .i64 0, .bool false] 80 (0, 0))) ∧ Aside0 (wr.heap[gX]? = some (.cells #[.int .i64 a2, .int .i64 p, .int .i64 (wrap64 (a3_2 + cost)), .bool m] 80 (0, 0))) ∧ Aside0 (impI a1 a2 (l0_4.drop kk) p m = R))
 case atStart => exact ⟨0, 100, a3_3, Nat.zero_le _, by omega, rfl, HB, BN, BO, BX, HI⟩
 clear HB BN BO BX HI
 obtain ⟨kk, p, m, hkk, hg, rfl, HB, BN, BO, BX, HI⟩ := hrel
 have hN := HI.out
 have HM0 := HM.out.2
 clear HI
 by_cases hlt : kk < l0_4.length
 rotate_left
 ·have hltz : ¬ (kk : Int) < (l0_4.length : Int) := by omega
  obtain rfl : kk = l0_4.length := by omega
  rw [List.drop_length, impI] at hN
  subst hN
  have hq := HR.out
  simp only [resI, Prod.mk.injEq] at hq
  obtain ⟨rfl, rfl, rfl, rfl, rfl⟩ := hq
  obtain ⟨cN0, cN1, cN2, cN3, cN4, cN5⟩ := box6 BN.out
  obtain ⟨cO0, cO1, cO2, cO3⟩ := box4 BO.out
  obtain ⟨cX0, cX1, cX2, cX3⟩ := box4 BX.out
  go_wp2_with (((with_reducible refine gate_store (t := 80) (p := 8) rfl ?_); have z0 := blk_frozen BO.out 0; have z1 := blk_frozen BO.out 1; have z2 := blk_frozen BO.out 2; have z3 := blk_frozen BO.out 3; refine store_event (t := 80) (p := 8) (v := .tmp 82) (w1 := ((((wr.setCell ⟨gO, 0, none⟩ (.int .i64 a2)).setCell ⟨gO, 1, none⟩ (.int .i64 p)).setCell ⟨gO, 2, none⟩ (.int .i64 (wrap64 (a3_2 + cost)))).setCell ⟨gO, 3, none⟩ (.bool m))) ?hg ?ho ?hn ?hr ?_; (case ho => rfl); (case hg => rfl); (case hn => rfl); (case hr => (go_simp; done)); clear z0 z1 z2 z3; clear cN0 cN1 cN2 cN3 cN4 cN5 cO0 cO1 cO2 cO3 cX0 cX1 cX2 cX3; intro wz hw_; obtain ⟨hbk, hkb, hkw⟩ := boxv4 (v0 := .int .i64 a2) (v1 := .int .i64 p) (v2 := .int .i64 (wrap64 (a3_2 + cost))) (v3 := .bool m) BO.out; rw [← hw_] at hbk hkb hkw; clear hw_; replace HB := aM (hkw _ HB.out GEO.out); replace BN := aM (blk_kept BN.out hkb (fun h_ => NENO.out h_)); replace BO := aM (hbk); replace BX := aM (blk_kept BX.out hkb (fun h_ => NEOX.out h_.symm)); clear hbk hkb hkw; obtain ⟨cN0, cN1, cN2, cN3, cN4, cN5⟩ := box6 BN.out; obtain ⟨cO0, cO1, cO2, cO3⟩ := box4 BO.out; obtain ⟨cX0, cX1, cX2, cX3⟩ := box4 BX.out))
  refine bodyPost_ret (results_ct rfl _ _ gO 80 #[.int .i64 a2, .int .i64 p, .int .i64 (wrap64 (a3_2 + cost)), .bool m] (0, 0) _ rfl BO.out Try.underlying80 rfl (by kernel_rfl)) rfl ?_
  exact ⟨rfl, HB.out⟩
 have hltz : (kk : Int) < (l0_4.length : Int) := by omega
 have hkc0 : (0 : Int) ≤ (kk : Int) := Int.natCast_nonneg _
 obtain ⟨ae, ea, hx0, hx1, hx2, hx3, hx4⟩ := at_T95 HN.out.2.2.2.2.2.2.2.2.1 (kk : Int) (by omega) (by omega)
 cases ea
 rw [Int.toNat_natCast] at hx0 hx1 hx2 hx3 hx4
 replace hx0 := swB HB.out hx0
 replace hx1 := swB HB.out hx1
 replace hx2 := swB HB.out hx2
 replace hx3 := swB HB.out hx3
 replace hx4 := swB HB.out hx4
 have hrd : rd_T95 l0_4 (kk : Int) = l0_4[kk] := by unfold rd_T95; simp [List.getD, hlt]
 rw [hrd] at hx0 hx1 hx2 hx3 hx4
 rw [List.drop_eq_getElem_cons hlt, impI] at hN
 have ew : IntKind.i64.wrap ((kk : Int) + 1) = ((kk + 1 : Nat) : Int) := IntWalk.i64_in _ (by omega)
 clear hrd
 generalize l0_4[kk] = x at hN hx0 hx1 hx2 hx3 hx4
 obtain ⟨x0, x1, x2, x3, x4⟩ := x
 dsimp only at hN hx0 hx1 hx2 hx3 hx4
 obtain ⟨cN0, cN1, cN2, cN3, cN4, cN5⟩ := box6 BN.out
 obtain ⟨cO0, cO1, cO2, cO3⟩ := box4 BO.out
 obtain ⟨cX0, cX1, cX2, cX3⟩ := box4 BX.out
 go_upto_region 5 with (first | ((with_reducible refine gate_dst (N := 12) rfl ?_); refine box_event rfl (N := 12) rfl (cs := #[.int .i64 0, .int .i64 0, .int .i64 0, .int .i64 0, .int .i64 0]) (t := 95) (by go_simp; done) ?_; intro gI hg_ wI hbox hbb; clear cN0 cN1 cN2 cN3 cN4 cN5 cO0 cO1 cO2 cO3 cX0 cX1 cX2 cX3; have GEI := aM (show w.heap.size ≤ gI by rw [hg_]; exact HB.out.size); have NENI := aM (show gN ≠ gI by rw [hg_]; exact Nat.ne_of_lt (blk_lt BN.out)); have NEOI := aM (show gO ≠ gI by rw [hg_]; exact Nat.ne_of_lt (blk_lt BO.out)); have NEXI := aM (show gX ≠ gI by rw [hg_]; exact Nat.ne_of_lt (blk_lt BX.out)); replace HB := aM (HB.out.trans (hbb.mono HB.out.size)); replace BN := aM (blk_below BN.out hbb); replace BO := aM (blk_below BO.out hbb); replace BX := aM (blk_below BX.out hbb); clear hbb hg_; have BI := aM hbox; clear hbox; obtain ⟨cN0, cN1, cN2, cN3, cN4, cN5⟩ := box6 BN.out; obtain ⟨cO0, cO1, cO2, cO3⟩ := box4 BO.out; obtain ⟨cX0, cX1, cX2, cX3⟩ := box4 BX.out; obtain ⟨cI0, cI1, cI2, cI3, cI4⟩ := box5 BI.out) | ((with_reducible refine gate_store (t := 95) (p := 12) rfl ?_); have z0 := blk_frozen BI.out 0; have z1 := blk_frozen BI.out 1; have z2 := blk_frozen BI.out 2; have z3 := blk_frozen BI.out 3; have z4 := blk_frozen BI.out 4; refine store_event (t := 95) (p := 12) (v := .tmp 35) (w1 := (((((wI.setCell ⟨gI, 0, none⟩ (.int .i64 x0)).setCell ⟨gI, 1, none⟩ (.int .i64 x1)).setCell ⟨gI, 2, none⟩ (.int .i64 x2)).setCell ⟨gI, 3, none⟩ (.int .i64 x3)).setCell ⟨gI, 4, none⟩ (.int .i64 x4))) ?hg ?ho ?hn ?hr ?_; (case ho => rfl); (case hg => rfl); (case hn => rfl); (case hr => (go_simp; done)); clear z0 z1 z2 z3 z4; clear cN0 cN1 cN2 cN3 cN4 cN5 cO0 cO1 cO2 cO3 cX0 cX1 cX2 cX3 cI0 cI1 cI2 cI3 cI4; intro w8 hw_; obtain ⟨hbk, hkb, hkw⟩ := boxv5 (v0 := .int .i64 x0) (v1 := .int .i64 x1) (v2 := .int .i64 x2) (v3 := .int .i64 x3) (v4 := .int .i64 x4) BI.out; rw [← hw_] at hbk hkb hkw; clear hw_; replace HB := aM (hkw _ HB.out GEI.out); replace BN := aM (blk_kept BN.out hkb (fun h_ => NENI.out h_)); replace BO := aM (blk_kept BO.out hkb (fun h_ => NEOI.out h_)); replace BX := aM (blk_kept BX.out hkb (fun h_ => NEXI.out h_)); replace BI := aM (hbk); clear hbk hkb hkw; obtain ⟨cN0, cN1, cN2, cN3, cN4, cN5⟩ := box6 BN.out; obtain ⟨cO0, cO1, cO2, cO3⟩ := box4 BO.out; obtain ⟨cX0, cX1, cX2, cX3⟩ := box4 BX.out; obtain ⟨cI0, cI1, cI2, cI3, cI4⟩ := box5 BI.out))
 clear hx0 hx1 hx2 hx3 hx4 cN0 cN1 cN2 cN3 cN4 cN5 cO0 cO1 cO2 cO3 cX0 cX1 cX2 cX3 cI0 cI1 cI2 cI3 cI4
 have HW : ∀ W, Below w8.heap.size w8 W → Below w.heap.size w W := fun W hW => HB.out.trans (hW.mono HB.out.size)
 have dN := fun (W : World) (hW : Below w8.heap.size w8 W) => blk_below BN.out hW
 have dO := fun (W : World) (hW : Below w8.heap.size w8 W) => blk_below BO.out hW
 have dX := fun (W : World) (hW : Below w8.heap.size w8 W) => blk_below BX.out hW
 have dI := fun (W : World) (hW : Below w8.heap.size w8 W) => blk_below BI.out hW
 refine seq_tail (R := []) [some 36, some 37, some 38, some 39, some 40, some 41, some 42, some 43, some 44, some 45, some 46, some 47, some 48, some 49, some 50, some 51, some 52, some 53, some 54, some 55, some 56, some 57, some 58, some 59, some 60, some 61, some 62, some 63, some 64] 83 29 [VP.eq (.pointer (some ⟨gI, 0, none⟩)), VP.eq (.int .i64 (x0)), VP.eq (.int .i64 (a1)), VP.eq (.bool ((x0 != a1))), VP.eq (.bool ((x0 != a1))), VP.eq (cond (((x0 != a1) == false)) (.pointer (some ⟨gI, 1, none⟩)) undef), VP.eq (cond (((x0 != a1) == false)) (.int .i64 (x1)) undef), VP.eq (cond (((x0 != a1) == false)) (.int .i64 (a2)) undef), VP.eq (cond (((x0 != a1) == false)) (.bool ((x1 != a2))) undef), VP.eq (.bool (((x0 != a1) || (x1 != a2)))), VP.eq (.bool (((x0 != a1) || (x1 != a2)))), VP.eq (cond ((((x0 != a1) || (x1 != a2)) == false)) (.pointer (some ⟨gI, 2, none⟩)) undef), VP.eq (cond ((((x0 != a1) || (x1 != a2)) == false)) (.int .i64 (x2)) undef), VP.eq (cond ((((x0 != a1) || (x1 != a2)) == false)) (.bool ((x2 == 1))) undef), VP.eq (cond ((((x0 != a1) || (x1 != a2)) == false)) (.bool ((x2 == 1))) undef), VP.eq (cond (((((x0 != a1) || (x1 != a2)) == false) && ((x2 == 1) == true))) (.pointer (some ⟨gX, 3, none⟩)) undef), VP.eq (cond (((((x0 != a1) || (x1 != a2)) == false) && ((x2 == 1) == true))) (.bool (m)) undef), VP.eq (cond (((((x0 != a1) || (x1 != a2)) == false) && ((x2 == 1) == true))) (.bool ((!m))) undef), VP.eq (cond ((((x0 != a1) || (x1 != a2)) == false)) (.bool (((x2 == 1) && (!m)))) undef), VP.eq (.bool ((((x0 != a1) || (x1 != a2)) || ((x2 == 1) && (!m))))), VP.eq (.bool ((((x0 != a1) || (x1 != a2)) || ((x2 == 1) && (!m))))), VP.eq (cond (((((x0 != a1) || (x1 != a2)) || ((x2 == 1) && (!m))) == false)) (.pointer (some ⟨gI, 2, none⟩)) undef), VP.eq (cond (((((x0 != a1) || (x1 != a2)) || ((x2 == 1) && (!m))) == false)) (.int .i64 (x2)) undef), VP.eq (cond (((((x0 != a1) || (x1 != a2)) || ((x2 == 1) && (!m))) == false)) (.bool ((x2 == 2))) undef), VP.eq (cond (((((x0 != a1) || (x1 != a2)) || ((x2 == 1) && (!m))) == false)) (.bool ((x2 == 2))) undef), VP.eq (cond ((((((x0 != a1) || (x1 != a2)) || ((x2 == 1) && (!m))) == false) && ((x2 == 2) == true))) (.pointer (some ⟨gX, 3, none⟩)) undef), VP.eq (cond ((((((x0 != a1) || (x1 != a2)) || ((x2 == 1) && (!m))) == false) && ((x2 == 2) == true))) (.bool (m)) undef), VP.eq (cond (((((x0 != a1) || (x1 != a2)) || ((x2 == 1) && (!m))) == false)) (.bool (((x2 == 2) && m))) undef), VP.eq (.bool (((((x0 != a1) || (x1 != a2)) || ((x2 == 1) && (!m))) || ((x2 == 2) && m))))] rfl rfl (by kernel_rfl) rfl ⟨?_, ?_, ?_, ?_, ?_, ?_, ?_, ?_, ?_, ?_, ?_, ?_, ?_, ?_, ?_, ?_, ?_, ?_, ?_, ?_, ?_, ?_, ?_, ?_, ?_, ?_, ?_, ?_, ?_, trivial⟩ ?_
 ·exact fun _ W _ hW _ hb hd _ hK _ => gd_step (C := true) wn_ (fun _ => x_fa95 rfl (oD (by kernel_rfl)) (hb 12)) (hK _ W rfl (Below.refl _ _))
 ·exact fun _ W _ hW _ hb hd _ hK _ => gd_step (C := true) wn_ (fun _ => x_ld3 rfl (hd 0 36) ((blk_cell (dI W hW) 0).trans rfl)) (hK _ W rfl (Below.refl _ _))
 ·exact fun _ W _ hW _ hb hd _ hK _ => gd_step (C := true) wn_ (fun _ => x_move rfl (hb 1)) (hK _ W rfl (Below.refl _ _))
 ·exact fun _ W _ hW _ hb hd _ hK _ => gd_step (C := true) wn_ (fun _ => x_neq rfl (hd 1 37) (hd 2 38)) (hK _ W rfl (Below.refl _ _))
 ·exact fun _ W _ hW _ hb hd _ hK _ => gd_step (C := true) wn_ (fun _ => x_move rfl (hd 3 39)) (hK _ W rfl (Below.refl _ _))
 ·exact fun _ W _ hW _ hb hd _ hK _ => gd_step (wg0 (hd 4 40)) (fun hC => x_fa95 rfl (oD (by kernel_rfl)) (hb 12)) (hK _ W rfl (Below.refl _ _))
 ·exact fun _ W _ hW _ hb hd _ hK _ => gd_step (wg0 (hd 4 40)) (fun hC => x_ld3 rfl (cnd (hd 5 41) hC) ((blk_cell (dI W hW) 1).trans rfl)) (hK _ W rfl (Below.refl _ _))
 ·exact fun _ W _ hW _ hb hd _ hK _ => gd_step (wg0 (hd 4 40)) (fun hC => x_move rfl (hb 2)) (hK _ W rfl (Below.refl _ _))
 ·exact fun _ W _ hW _ hb hd _ hK _ => gd_step (wg0 (hd 4 40)) (fun hC => x_neq rfl (cnd (hd 6 42) hC) (cnd (hd 7 43) hC)) (hK _ W rfl (Below.refl _ _))
 ·exact fun _ W _ hW _ hb hd _ hK _ => gd_step (C := true) wn_ (fun _ => x_or rfl (hd 4 40) (hd 8 44)) (hK _ W rfl (Below.refl _ _))
 ·exact fun _ W _ hW _ hb hd _ hK _ => gd_step (C := true) wn_ (fun _ => x_move rfl (hd 9 45)) (hK _ W rfl (Below.refl _ _))
 ·exact fun _ W _ hW _ hb hd _ hK _ => gd_step (wg0 (hd 10 46)) (fun hC => x_fa95 rfl (oD (by kernel_rfl)) (hb 12)) (hK _ W rfl (Below.refl _ _))
 ·exact fun _ W _ hW _ hb hd _ hK _ => gd_step (wg0 (hd 10 46)) (fun hC => x_ld3 rfl (cnd (hd 11 47) hC) ((blk_cell (dI W hW) 2).trans rfl)) (hK _ W rfl (Below.refl _ _))
 ·exact fun _ W _ hW _ hb hd _ hK _ => gd_step (wg0 (hd 10 46)) (fun hC => x_eql rfl (cnd (hd 12 48) hC) rfl) (hK _ W rfl (Below.refl _ _))
 ·exact fun _ W _ hW _ hb hd _ hK _ => gd_step (wg0 (hd 10 46)) (fun hC => x_move rfl (cnd (hd 13 49) hC)) (hK _ W rfl (Below.refl _ _))
 ·exact fun _ W _ hW _ hb hd _ hK _ => gd_step (wg (hd 14 50)) (fun hC => x_fa80 rfl (oD (by kernel_rfl)) (hb 10)) (hK _ W rfl (Below.refl _ _))
 ·exact fun _ W _ hW _ hb hd _ hK _ => gd_step (wg (hd 14 50)) (fun hC => x_ld4 rfl (cnd (hd 15 51) hC) ((blk_cell (dX W hW) 3).trans rfl)) (hK _ W rfl (Below.refl _ _))
 ·exact fun _ W _ hW _ hb hd _ hK _ => gd_step (wg (hd 14 50)) (fun hC => x_not rfl (cnd (hd 16 52) hC)) (hK _ W rfl (Below.refl _ _))
 ·exact fun _ W _ hW _ hb hd _ hK _ => gd_step (wg0 (hd 10 46)) (fun hC => x_and rfl (cnd (hd 14 50) hC) (cnd_and (hd 17 53) hC)) (hK _ W rfl (Below.refl _ _))
 ·exact fun _ W _ hW _ hb hd _ hK _ => gd_step (C := true) wn_ (fun _ => x_or rfl (hd 10 46) (hd 18 54)) (hK _ W rfl (Below.refl _ _))
 ·exact fun _ W _ hW _ hb hd _ hK _ => gd_step (C := true) wn_ (fun _ => x_move rfl (hd 19 55)) (hK _ W rfl (Below.refl _ _))
 ·exact fun _ W _ hW _ hb hd _ hK _ => gd_step (wg0 (hd 20 56)) (fun hC => x_fa95 rfl (oD (by kernel_rfl)) (hb 12)) (hK _ W rfl (Below.refl _ _))
 ·exact fun _ W _ hW _ hb hd _ hK _ => gd_step (wg0 (hd 20 56)) (fun hC => x_ld3 rfl (cnd (hd 21 57) hC) ((blk_cell (dI W hW) 2).trans rfl)) (hK _ W rfl (Below.refl _ _))
 ·exact fun _ W _ hW _ hb hd _ hK _ => gd_step (wg0 (hd 20 56)) (fun hC => x_eql rfl (cnd (hd 22 58) hC) rfl) (hK _ W rfl (Below.refl _ _))
 ·exact fun _ W _ hW _ hb hd _ hK _ => gd_step (wg0 (hd 20 56)) (fun hC => x_move rfl (cnd (hd 23 59) hC)) (hK _ W rfl (Below.refl _ _))
 ·exact fun _ W _ hW _ hb hd _ hK _ => gd_step (wg (hd 24 60)) (fun hC => x_fa80 rfl (oD (by kernel_rfl)) (hb 10)) (hK _ W rfl (Below.refl _ _))
 ·exact fun _ W _ hW _ hb hd _ hK _ => gd_step (wg (hd 24 60)) (fun hC => x_ld4 rfl (cnd (hd 25 61) hC) ((blk_cell (dX W hW) 3).trans rfl)) (hK _ W rfl (Below.refl _ _))
 ·exact fun _ W _ hW _ hb hd _ hK _ => gd_step (wg0 (hd 20 56)) (fun hC => x_and rfl (cnd (hd 24 60) hC) (cnd_and (hd 26 62) hC)) (hK _ W rfl (Below.refl _ _))
 ·exact fun _ W _ hW _ hb hd _ hK _ => gd_step (C := true) wn_ (fun _ => x_or rfl (hd 20 56) (hd 27 63)) (hK _ W rfl (Below.refl _ _))
 intro vals F W B hF hW hBB hV
 have hf : vals 64 = .bool (((((x0 != a1) || (x1 != a2)) || ((x2 == 1) && (!m))) || ((x2 == 2) && m))) := hV 28 64 (oD (by kernel_rfl)) rfl
 replace HB := aM (HW W hW)
 replace BN := aM (dN W hW)
 replace BO := aM (dO W hW)
 replace BX := aM (dX W hW)
 replace BI := aM (dI W hW)
 clear hW HW dN dO dX dI
 rw [hF]
 clear hF hV hBB
 simp only [cond_true, List.take, fillA, Act.put, List.setIfInBounds_toArray, List.set_cons_zero, List.set_cons_succ, hf]
 clear hf
 cases hSK : ((((x0 != a1) || (x1 != a2)) || ((x2 == 1) && (!m))) || ((x2 == 2) && m)) with
 | true =>
  rw [if_pos hSK] at hN
  have HI := aM hN
  clear hN
  obtain ⟨cN0, cN1, cN2, cN3, cN4, cN5⟩ := box6 BN.out
  obtain ⟨cO0, cO1, cO2, cO3⟩ := box4 BO.out
  obtain ⟨cX0, cX1, cX2, cX3⟩ := box4 BX.out
  obtain ⟨cI0, cI1, cI2, cI3, cI4⟩ := box5 BI.out
  go_wp2
  go_roundg (l0_4.length - (kk + 1))
  case measure => omega
  case rel => exact ⟨kk + 1, p, m, by omega, by omega, by go_num, HB, BN, BO, BX, HI⟩
 | false =>
  rw [if_neg (by rw [hSK]; exact Bool.false_ne_true)] at hN
  cases h1 : (x3 == 1) with
  | true =>
   rw [h1, if_pos rfl] at hN
   subst hN
   have hq := HR.out
   simp only [resI, Prod.mk.injEq] at hq
   obtain ⟨rfl, rfl, rfl, rfl, rfl⟩ := hq
   obtain ⟨cN0, cN1, cN2, cN3, cN4, cN5⟩ := box6 BN.out
   obtain ⟨cO0, cO1, cO2, cO3⟩ := box4 BO.out
   obtain ⟨cX0, cX1, cX2, cX3⟩ := box4 BX.out
   obtain ⟨cI0, cI1, cI2, cI3, cI4⟩ := box5 BI.out
   go_wp2_with (((with_reducible refine gate_store (t := 80) (p := 8) rfl ?_); have z0 := blk_frozen BO.out 0; have z1 := blk_frozen BO.out 1; have z2 := blk_frozen BO.out 2; have z3 := blk_frozen BO.out 3; refine store_event (t := 80) (p := 8) (v := .tmp 69) (w1 := ((((W.setCell ⟨gO, 0, none⟩ (.int .i64 0)).setCell ⟨gO, 1, none⟩ (.int .i64 0)).setCell ⟨gO, 2, none⟩ (.int .i64 0)).setCell ⟨gO, 3, none⟩ (.bool false))) ?hg ?ho ?hn ?hr ?_; (case ho => rfl); (case hg => rfl); (case hn => rfl); (case hr => (go_simp; done)); clear z0 z1 z2 z3; clear cN0 cN1 cN2 cN3 cN4 cN5 cO0 cO1 cO2 cO3 cX0 cX1 cX2 cX3 cI0 cI1 cI2 cI3 cI4; intro wz hw_; obtain ⟨hbk, hkb, hkw⟩ := boxv4 (v0 := .int .i64 0) (v1 := .int .i64 0) (v2 := .int .i64 0) (v3 := .bool false) BO.out; rw [← hw_] at hbk hkb hkw; clear hw_; replace HB := aM (hkw _ HB.out GEO.out); replace BN := aM (blk_kept BN.out hkb (fun h_ => NENO.out h_)); replace BO := aM (hbk); replace BX := aM (blk_kept BX.out hkb (fun h_ => NEOX.out h_.symm)); replace BI := aM (blk_kept BI.out hkb (fun h_ => NEOI.out h_.symm)); clear hbk hkb hkw; obtain ⟨cN0, cN1, cN2, cN3, cN4, cN5⟩ := box6 BN.out; obtain ⟨cO0, cO1, cO2, cO3⟩ := box4 BO.out; obtain ⟨cX0, cX1, cX2, cX3⟩ := box4 BX.out; obtain ⟨cI0, cI1, cI2, cI3, cI4⟩ := box5 BI.out))
   refine bodyPost_ret (results_ct rfl _ _ gO 80 #[.int .i64 0, .int .i64 0, .int .i64 0, .bool false] (0, 0) _ rfl BO.out Try.underlying80 rfl (by kernel_rfl)) rfl ?_
   exact ⟨rfl, HB.out⟩
  | false =>
   rw [h1, if_neg Bool.false_ne_true] at hN
   cases h2 : (x3 == 2) with
   | true =>
    rw [h2, if_pos rfl] at hN
    have HI := aM hN
    clear hN
    obtain ⟨cN0, cN1, cN2, cN3, cN4, cN5⟩ := box6 BN.out
    obtain ⟨cO0, cO1, cO2, cO3⟩ := box4 BO.out
    obtain ⟨cX0, cX1, cX2, cX3⟩ := box4 BX.out
    obtain ⟨cI0, cI1, cI2, cI3, cI4⟩ := box5 BI.out
    go_wp2_with (((with_reducible refine gate_store (t := 3) (p := 74) rfl ?_); have z0 := blk_frozen BX.out 1; refine store_event (t := 3) (p := 74) (v := .tmp 73) (w1 := W.setCell ⟨gX, 1, none⟩ (.int .i64 x4)) ?hg ?ho ?hn ?hr ?_; (case ho => rfl); (case hg => rfl); (case hn => rfl); (case hr => (go_simp; done)); clear z0; clear cN0 cN1 cN2 cN3 cN4 cN5 cO0 cO1 cO2 cO3 cX0 cX1 cX2 cX3 cI0 cI1 cI2 cI3 cI4; intro wz hw_; obtain ⟨hbk, hkb, hkw⟩ := boxf (i := 1) (v := .int .i64 x4) (cs' := #[.int .i64 a2, .int .i64 x4, .int .i64 (wrap64 (a3_2 + cost)), .bool m]) BX.out rfl; rw [← hw_] at hbk hkb hkw; clear hw_; replace HB := aM (hkw _ HB.out GEX.out); replace BN := aM (blk_kept BN.out hkb (fun h_ => NENX.out h_)); replace BO := aM (blk_kept BO.out hkb (fun h_ => NEOX.out h_)); replace BX := aM (hbk); replace BI := aM (blk_kept BI.out hkb (fun h_ => NEXI.out h_.symm)); clear hbk hkb hkw; obtain ⟨cN0, cN1, cN2, cN3, cN4, cN5⟩ := box6 BN.out; obtain ⟨cO0, cO1, cO2, cO3⟩ := box4 BO.out; obtain ⟨cX0, cX1, cX2, cX3⟩ := box4 BX.out; obtain ⟨cI0, cI1, cI2, cI3, cI4⟩ := box5 BI.out))
    go_roundg (l0_4.length - (kk + 1))
    case measure => omega
    case rel => exact ⟨kk + 1, x4, m, by omega, by omega, by go_num, HB, BN, BO, BX, HI⟩
   | false =>
    rw [h2, if_neg Bool.false_ne_true] at hN
    cases h3 : (x3 == 3) with
    | true =>
     rw [h3, if_pos rfl] at hN
     have HI := aM hN
     clear hN
     obtain ⟨cN0, cN1, cN2, cN3, cN4, cN5⟩ := box6 BN.out
     obtain ⟨cO0, cO1, cO2, cO3⟩ := box4 BO.out
     obtain ⟨cX0, cX1, cX2, cX3⟩ := box4 BX.out
     obtain ⟨cI0, cI1, cI2, cI3, cI4⟩ := box5 BI.out
     go_wp2_with (((with_reducible refine gate_store (t := 4) (p := 77) rfl ?_); have z0 := blk_frozen BX.out 3; refine store_event (t := 4) (p := 77) (v := .const (.bool true)) (w1 := W.setCell ⟨gX, 3, none⟩ (.bool true)) ?hg ?ho ?hn ?hr ?_; (case ho => rfl); (case hg => rfl); (case hn => rfl); (case hr => (go_simp; done)); clear z0; clear cN0 cN1 cN2 cN3 cN4 cN5 cO0 cO1 cO2 cO3 cX0 cX1 cX2 cX3 cI0 cI1 cI2 cI3 cI4; intro wz hw_; obtain ⟨hbk, hkb, hkw⟩ := boxf (i := 3) (v := .bool true) (cs' := #[.int .i64 a2, .int .i64 p, .int .i64 (wrap64 (a3_2 + cost)), .bool true]) BX.out rfl; rw [← hw_] at hbk hkb hkw; clear hw_; replace HB := aM (hkw _ HB.out GEX.out); replace BN := aM (blk_kept BN.out hkb (fun h_ => NENX.out h_)); replace BO := aM (blk_kept BO.out hkb (fun h_ => NEOX.out h_)); replace BX := aM (hbk); replace BI := aM (blk_kept BI.out hkb (fun h_ => NEXI.out h_.symm)); clear hbk hkb hkw; obtain ⟨cN0, cN1, cN2, cN3, cN4, cN5⟩ := box6 BN.out; obtain ⟨cO0, cO1, cO2, cO3⟩ := box4 BO.out; obtain ⟨cX0, cX1, cX2, cX3⟩ := box4 BX.out; obtain ⟨cI0, cI1, cI2, cI3, cI4⟩ := box5 BI.out))
     go_roundg (l0_4.length - (kk + 1))
     case measure => omega
     case rel => exact ⟨kk + 1, p, true, by omega, by omega, by go_num, HB, BN, BO, BX, HI⟩
    | false =>
     rw [h3, if_neg Bool.false_ne_true] at hN
     cases h4 : (x3 == 4) with
     | true =>
      rw [h4, if_pos rfl] at hN
      have HI := aM hN
      clear hN
      obtain ⟨cN0, cN1, cN2, cN3, cN4, cN5⟩ := box6 BN.out
      obtain ⟨cO0, cO1, cO2, cO3⟩ := box4 BO.out
      obtain ⟨cX0, cX1, cX2, cX3⟩ := box4 BX.out
      obtain ⟨cI0, cI1, cI2, cI3, cI4⟩ := box5 BI.out
      go_wp2_with (((with_reducible refine gate_store (t := 4) (p := 80) rfl ?_); have z0 := blk_frozen BX.out 3; refine store_event (t := 4) (p := 80) (v := .const (.bool false)) (w1 := W.setCell ⟨gX, 3, none⟩ (.bool false)) ?hg ?ho ?hn ?hr ?_; (case ho => rfl); (case hg => rfl); (case hn => rfl); (case hr => (go_simp; done)); clear z0; clear cN0 cN1 cN2 cN3 cN4 cN5 cO0 cO1 cO2 cO3 cX0 cX1 cX2 cX3 cI0 cI1 cI2 cI3 cI4; intro wz hw_; obtain ⟨hbk, hkb, hkw⟩ := boxf (i := 3) (v := .bool false) (cs' := #[.int .i64 a2, .int .i64 p, .int .i64 (wrap64 (a3_2 + cost)), .bool false]) BX.out rfl; rw [← hw_] at hbk hkb hkw; clear hw_; replace HB := aM (hkw _ HB.out GEX.out); replace BN := aM (blk_kept BN.out hkb (fun h_ => NENX.out h_)); replace BO := aM (blk_kept BO.out hkb (fun h_ => NEOX.out h_)); replace BX := aM (hbk); replace BI := aM (blk_kept BI.out hkb (fun h_ => NEXI.out h_.symm)); clear hbk hkb hkw; obtain ⟨cN0, cN1, cN2, cN3, cN4, cN5⟩ := box6 BN.out; obtain ⟨cO0, cO1, cO2, cO3⟩ := box4 BO.out; obtain ⟨cX0, cX1, cX2, cX3⟩ := box4 BX.out; obtain ⟨cI0, cI1, cI2, cI3, cI4⟩ := box5 BI.out))
      go_roundg (l0_4.length - (kk + 1))
      case measure => omega
      case rel => exact ⟨kk + 1, p, false, by omega, by omega, by go_num, HB, BN, BO, BX, HI⟩
     | false =>
      rw [h4, if_neg Bool.false_ne_true] at hN
      have HI := aM hN
      clear hN
      obtain ⟨cN0, cN1, cN2, cN3, cN4, cN5⟩ := box6 BN.out
      obtain ⟨cO0, cO1, cO2, cO3⟩ := box4 BO.out
      obtain ⟨cX0, cX1, cX2, cX3⟩ := box4 BX.out
      obtain ⟨cI0, cI1, cI2, cI3, cI4⟩ := box5 BI.out
      go_wp2
      go_roundg (l0_4.length - (kk + 1))
      case measure => omega
      case rel => exact ⟨kk + 1, p, m, by omega, by omega, by go_num, HB, BN, BO, BX, HI⟩
end Go.Proofs.Ytgibacfgjmdjdaa.PFnExactIsStable
end
section
namespace Go.Proofs.Ytgibacfgjmdjdaa.PFnExactIsStable
open Go.RowKit Go.Proofs.YtgibacfgjmdjdaaW.PrintWords Go.Proofs.YtgibacfgjmdjdaaW.PrintLast Go.Proofs.YtgibacfgjmdjdaaW.PrintMore
attribute [local go_sem] max2_int min2_int max_two min_two max_three min_three max_four min_four   -- for this text's walks alone
set_option linter.unusedVariables false
set_option linter.unusedSimpArgs false
mutual
def impl_candidates.j0 : Nat → Int → List Int → List Bool → List (S80) → List (S80) → List ByteArray → List (S92) → List Int → List Int → List (S95) → List (S97) → Option ((List (S80)))
 | 0, _, _, _, _, _, _, _, _, _, _, _ => none
 | k + 1, x1, x2, x3, x4, x11, x344000, x344001, x344002, x344003, x344004, x344005 => (impl_outRoute.f k x344000 x344001 x344002 x344003 x344004 x344005 x2 x1).bind fun bt353 => (if bt353.2.2.2.2 = true then (if x11.length < 4398046511104 then (impl_candidates.j1 k x1 x3 x4 (x11 ++ [(⟨bt353.1, bt353.2.1, bt353.2.2.1, bt353.2.2.2.1⟩ : S80)]) x344000 x344001 x344002 x344003 x344004 x344005) else (none)) else (impl_candidates.j1 k x1 x3 x4 x11 x344000 x344001 x344002 x344003 x344004 x344005))
def impl_candidates.j1 : Nat → Int → List Bool → List (S80) → List (S80) → List ByteArray → List (S92) → List Int → List Int → List (S95) → List (S97) → Option ((List (S80)))
 | 0, _, _, _, _, _, _, _, _, _, _ => none
 | k + 1, x1, x3, x4, x11, x344000, x344001, x344002, x344003, x344004, x344005 => (impl_neighbours.f k x344000 x344001 x344002 x344003 x344004 x344005 x1 x3).bind fun t362 => (impl_candidates.l0 k x1 x4 x11 t362 (t362.length : Int) 0 x344000 x344001 x344002 x344003 x344004 x344005)
def impl_candidates.l0 : Nat → Int → List (S80) → List (S80) → List Int → Int → Int → List ByteArray → List (S92) → List Int → List Int → List (S95) → List (S97) → Option ((List (S80)))
 | 0, _, _, _, _, _, _, _, _, _, _, _, _ => none
 | k + 1, x1, x4, x11, x46, x47, x48, x344000, x344001, x344002, x344003, x344004, x344005 => if x48 < x47 then (if 0 ≤ x48 then (if x48 < (x46.length : Int) then (if 0 ≤ (rd x46 x48) then (if (rd x46 x48) < (x4.length : Int) then (if ((rd_T80 x4 (rd x46 x48)).f0) = (-3) then (impl_candidates.j3 k x1 x4 x11 (rd x46 x48) x46 x47 x48 true x344000 x344001 x344002 x344003 x344004 x344005) else ((impl_comesTo.f k x4 (rd x46 x48) x1).bind fun t367 => (impl_candidates.j3 k x1 x4 x11 (rd x46 x48) x46 x47 x48 t367 x344000 x344001 x344002 x344003 x344004 x344005))) else (none)) else (none)) else (none)) else (none)) else (some x11)
def impl_candidates.j3 : Nat → Int → List (S80) → List (S80) → Int → List Int → Int → Int → Bool → List ByteArray → List (S92) → List Int → List Int → List (S95) → List (S97) → Option ((List (S80)))
 | 0, _, _, _, _, _, _, _, _, _, _, _, _, _, _ => none
 | k + 1, x1, x4, x11, x17, x46, x47, x48, x63, x344000, x344001, x344002, x344003, x344004, x344005 => if x63 = true then (impl_candidates.l0 k x1 x4 x11 x46 x47 (wrap64 (x48 + 1)) x344000 x344001 x344002 x344003 x344004 x344005) else (if 0 ≤ x17 then (if x17 < (x4.length : Int) then ((impl_imported.f k x344000 x344001 x344002 x344003 x344004 x344005 x1 x17 ((rd_T80 x4 x17).f0) ((rd_T80 x4 x17).f1) ((rd_T80 x4 x17).f2) ((rd_T80 x4 x17).f3)).bind fun bt369 => (if bt369.2.2.2.2 = true then (if x11.length < 4398046511104 then (impl_candidates.l0 k x1 x4 (x11 ++ [(⟨bt369.1, bt369.2.1, bt369.2.2.1, bt369.2.2.2.1⟩ : S80)]) x46 x47 (wrap64 (x48 + 1)) x344000 x344001 x344002 x344003 x344004 x344005) else (none)) else (impl_candidates.l0 k x1 x4 x11 x46 x47 (wrap64 (x48 + 1)) x344000 x344001 x344002 x344003 x344004 x344005))) else (none)) else (none))
end
def impl_candidates.f (k : Nat) (l0_0 : List ByteArray) (l0_1 : List (S92)) (l0_2 : List Int) (l0_3 : List Int) (l0_4 : List (S95)) (l0_5 : List (S97)) (a1 : Int) (l2 : List Int) (l3 : List Bool) (l4 : List (S80)) : Option ((List (S80))) := (impl_ownRoute.f k l0_0 l0_1 l0_2 l0_3 l0_4 l0_5 a1).bind fun bt344 => (if bt344.2.2.2.2 = true then (if ([] : List (S80)).length < 4398046511104 then (impl_candidates.j0 k a1 l2 l3 l4 (([] : List (S80)) ++ [(⟨bt344.1, bt344.2.1, bt344.2.2.1, bt344.2.2.2.1⟩ : S80)]) l0_0 l0_1 l0_2 l0_3 l0_4 l0_5) else (none)) else (impl_candidates.j0 k a1 l2 l3 l4 ([] : List (S80)) l0_0 l0_1 l0_2 l0_3 l0_4 l0_5))
def impl_candidates.T12 : Bool × List (List Nat × List Nat) := (true, [([], []), ([], []), ([], []), ([], []), ([], []), ([3, 4], [3, 4]), ([5], [5]), ([0, 1, 2, 6], [0, 1, 2, 6]), ([7], [7]), ([8], [8]), ([8], [8]), ([], []), ([11, 9, 7, 0, 1, 2, 3, 4, 5, 6, 7, 8, 9, 11], [9, 11]), ([10, 12, 0, 1, 2, 3, 4, 5, 6, 7, 8, 9, 10, 11, 12], [10])])
def impl_candidates.B12 : List Nat := [0, 0, 0, 0, 0, 24, 56, 127, 255, 511, 511, 0, 3071, 8191]
theorem impl_candidates.tab12 : rtab .any (opsOf Try.f71 12) = impl_candidates.T12 := by kernel_rfl
theorem impl_candidates.bits12 : waitsOk impl_candidates.T12.2 impl_candidates.B12 = true := by kernel_rfl
set_option maxHeartbeats 8000000 in
set_option maxRecDepth 100000 in
theorem impl_candidates.calls (k : Nat) (A0_0 : Option Addr) (c0_0 : Nat) (l0_0 : List ByteArray) (A0_1 : Option Addr) (c0_1 : Nat) (l0_1 : List (S92)) (A0_2 : Option Addr) (c0_2 : Nat) (l0_2 : List Int) (A0_3 : Option Addr) (c0_3 : Nat) (l0_3 : List Int) (A0_4 : Option Addr) (c0_4 : Nat) (l0_4 : List (S95)) (A0_5 : Option Addr) (c0_5 : Nat) (l0_5 : List (S97)) (a1 : Int) (A2 : Option Addr) (c2 : Nat) (l2 : List Int) (A3 : Option Addr) (c3 : Nat) (l3 : List Bool) (A4 : Option Addr) (c4 : Nat) (l4 : List (S80)) (r : List (S80)) (w : World) (hr0_0 : Kd.C Kd.string w A0_0 l0_0.length l0_0) (hc0_0 : l0_0.length ≤ c0_0) (hr0_1 : Kd.C k92 w A0_1 l0_1.length l0_1) (hc0_1 : l0_1.length ≤ c0_1) (hr0_2 : Kd.C (Kd.int .i64) w A0_2 l0_2.length l0_2) (hc0_2 : l0_2.length ≤ c0_2) (hr0_3 : Kd.C (Kd.int .i64) w A0_3 l0_3.length l0_3) (hc0_3 : l0_3.length ≤ c0_3) (hr0_4 : Kd.C k95 w A0_4 l0_4.length l0_4) (hc0_4 : l0_4.length ≤ c0_4) (hr0_5 : Kd.C k97 w A0_5 l0_5.length l0_5) (hc0_5 : l0_5.length ≤ c0_5) (hr2 : Kd.C (Kd.int .i64) w A2 l2.length l2) (hc2 : l2.length ≤ c2) (hr3 : Kd.C Kd.bool w A3 l3.length l3) (hc3 : l3.length ≤ c3) (hr4 : Kd.C k80 w A4 l4.length l4) (hc4 : l4.length ≤ c4) (h : impl_candidates.f k l0_0 l0_1 l0_2 l0_3 l0_4 l0_5 a1 l2 l3 l4 = some r) :
  Calls Try.prog 71 #[.agg #[.slice A0_0 l0_0.length c0_0, .slice A0_1 l0_1.length c0_1, .slice A0_2 l0_2.length c0_2, .slice A0_3 l0_3.length c0_3, .slice A0_4 l0_4.length c0_4, .slice A0_5 l0_5.length c0_5], .int .i64 a1, .slice A2 l2.length c2, .slice A3 l3.length c3, .slice A4 l4.length c4] w fun e w' => ∃ v0_ : Value, e = .returned (v0_) ∧ Kd.R k80 80 w' w.heap.size (fun _ => True) v0_ r ∧ Below w.heap.size w w' := by
 have hu38 := Try.underlying38
 have hu80 := Try.underlying80
 obtain ⟨HR0_0, HC0_0, HR0_1, HC0_1, HR0_2, HC0_2, HR0_3, HC0_3, HR0_4, HC0_4, HR0_5, HC0_5⟩ := as12 hr0_0 hc0_0 hr0_1 hc0_1 hr0_2 hc0_2 hr0_3 hc0_3 hr0_4 hc0_4 hr0_5 hc0_5
 clear hr0_0 hc0_0 hr0_1 hc0_1 hr0_2 hc0_2 hr0_3 hc0_3 hr0_4 hc0_4 hr0_5 hc0_5
 have HR2 := aM hr2
 have HC2 := aM hc2
 clear hr2 hc2
 have HR3 := aM hr3
 have HC3 := aM hc3
 clear hr3 hc3
 have HR4 := aM hr4
 have HC4 := aM hc4
 clear hr4 hc4
 have HB := aM (Below.refl w.heap.size w)
 have H : ((impl_ownRoute.f k l0_0 l0_1 l0_2 l0_3 l0_4 l0_5 a1).bind fun bt344 => (if bt344.2.2.2.2 = true then (if ([] : List (S80)).length < 4398046511104 then (impl_candidates.j0 k a1 l2 l3 l4 (([] : List (S80)) ++ [(⟨bt344.1, bt344.2.1, bt344.2.2.1, bt344.2.2.2.1⟩ : S80)]) l0_0 l0_1 l0_2 l0_3 l0_4 l0_5) else (none)) else (impl_candidates.j0 k a1 l2 l3 l4 ([] : List (S80)) l0_0 l0_1 l0_2 l0_3 l0_4 l0_5))) = some r := h
 clear h
 replace H := bS H
 obtain ⟨⟨t344, t345, t346, t347, t348⟩, A60, H⟩ := H
 replace H : (if t348 = true then (if ([] : List (S80)).length < 4398046511104 then (impl_candidates.j0 k a1 l2 l3 l4 (([] : List (S80)) ++ [(⟨t344, t345, t346, t347⟩ : S80)]) l0_0 l0_1 l0_2 l0_3 l0_4 l0_5) else (none)) else (impl_candidates.j0 k a1 l2 l3 l4 ([] : List (S80)) l0_0 l0_1 l0_2 l0_3 l0_4 l0_5)) = some r := H
 have A6 := aM A60
 clear A60
 have HC7 := aM H
 clear H
 go_enter Try.func71, Try.ntmps71
 go_upto_if 26 with (first | ((with_reducible refine gate_dst (N := 5) rfl ?_); refine box_event rfl (N := 5) rfl (cs := #[.slice A0_0 l0_0.length c0_0, .slice A0_1 l0_1.length c0_1, .slice A0_2 l0_2.length c0_2, .slice A0_3 l0_3.length c0_3, .slice A0_4 l0_4.length c0_4, .slice A0_5 l0_5.length c0_5]) (t := 38) (by go_simp; done) ?_; intro gb343 hg w8 hbox hb; have BK343 := aM (hbox); have GW343 := bGE HB.out hg; have GE343 := bGE HB.out hg; replace HB := aB HB hb; clear hb hbox hg; obtain ⟨hcz9_0, hcz9_1, hcz9_2, hcz9_3, hcz9_4, hcz9_5⟩ := swc6 BK343.out; obtain ⟨hfz9_0, hfz9_1, hfz9_2, hfz9_3, hfz9_4, hfz9_5⟩ := swf6 BK343.out) | (go_at_call 102; (with_reducible refine (impl_ownRoute.calls k _ _ l0_0 _ _ l0_1 _ _ l0_2 _ _ l0_3 _ _ l0_4 _ _ l0_5 a1 t344 t345 t346 t347 t348 _ (Kd.C_below HR0_0.out HB.out) HC0_0.out (Kd.C_below HR0_1.out HB.out) HC0_1.out (Kd.C_below HR0_2.out HB.out) HC0_2.out (Kd.C_below HR0_3.out HB.out) HC0_3.out (Kd.C_below HR0_4.out HB.out) HC0_4.out (Kd.C_below HR0_5.out HB.out) HC0_5.out A6.out).mono ?_); rintro e w10 ⟨rfl, hb⟩; replace BK343 := aK BK343 hb; replace HB := aB HB hb; (try clear hb)) | ((with_reducible refine gate_dst (N := 12) rfl ?_); refine box_event rfl (N := 12) rfl (cs := #[.int .i64 0, .int .i64 0, .int .i64 0, .bool false]) (t := 80) (by go_simp; done) ?_; intro gb349 hg w11 hbox hb; have BK349 := aM (hbox); have GW349 := bGE HB.out hg; have GE349 := bGE HB.out hg; replace HB := aB HB hb; have NB343_349 := bLT BK343.out hg; have NB349_343 := bGT BK343.out hg; replace BK343 := aK BK343 hb; clear hb hbox hg; have hnb12 := NB349_343.out; have hnc12 := NB343_349.out; obtain ⟨hcz13_0, hcz13_1, hcz13_2, hcz13_3⟩ := swc4 BK349.out; obtain ⟨hfz13_0, hfz13_1, hfz13_2, hfz13_3⟩ := swf4 BK349.out))
 (try simp only [Act.put, List.setIfInBounds_toArray, List.set_cons_zero, List.set_cons_succ])
 go_cut [11] (fun v11 wc => ∃ (kq : Nat) (x11_6 : List (S80)), Aside0 (impl_candidates.j0 kq a1 l2 l3 l4 x11_6 l0_0 l0_1 l0_2 l0_3 l0_4 l0_5 = some r) ∧ Aside0 (kq ≤ k) ∧ Aside0 (Kd.R k80 80 wc w.heap.size (fun k_ => k_ ≠ gb349) v11 x11_6) ∧ Aside0 (wc.heap[gb343]? = some (.cells #[(.slice A0_0 l0_0.length c0_0), (.slice A0_1 l0_1.length c0_1), (.slice A0_2 l0_2.length c0_2), (.slice A0_3 l0_3.length c0_3), (.slice A0_4 l0_4.length c0_4), (.slice A0_5 l0_5.length c0_5)] 38 (0, 0))) ∧ Aside0 (wc.heap[gb349]? = some (.cells #[.int .i64 t344, .int .i64 t345, .int .i64 t346, .bool t347] 80 (0, 0))) ∧ Aside0 (Below w.heap.size w wc))
 case first =>
  have H := HC7.out
  clear HC7
  by_cases c14 : t348 = true
  rotate_left
  ·replace c14 := Bool.eq_false_iff.mpr c14
   subst c14
   rw [if_neg (show ¬ (false = true) by decide)] at H
   have H' := aM H
   clear H
   go_wp2
   go_meet
   case rel => exact ⟨_, (([] : List (S80))), H', ⟨by omega⟩, ⟨by exact Kd.R_nil _ _ _ _ _⟩, ⟨by refine blk_far ?_ NB343_349.out _; refine blk_far ?_ NB343_349.out _; refine blk_far ?_ NB343_349.out _; refine blk_far ?_ NB343_349.out _; exact BK343.out⟩, ⟨by refine blk_put (cs := #[.int .i64 t344, .int .i64 t345, .int .i64 t346, .bool false]) ?_ 3 _ rfl; refine blk_put (cs := #[.int .i64 t344, .int .i64 t345, .int .i64 0, .bool false]) ?_ 2 _ rfl; refine blk_put (cs := #[.int .i64 t344, .int .i64 0, .int .i64 0, .bool false]) ?_ 1 _ rfl; refine blk_put (cs := #[.int .i64 0, .int .i64 0, .int .i64 0, .bool false]) ?_ 0 _ rfl; exact BK349.out⟩, ⟨by repeat ((with_reducible first | exact HB.out | refine below_set ?_ GE349.out))⟩⟩
  subst c14
  rw [if_pos rfl] at H
  by_cases c15 : ([] : List (S80)).length < 4398046511104
  rotate_left
  ·rw [if_neg c15] at H
   exact absurd H (by simp)
  rw [if_pos c15] at H
  have LMc15 := aM c15
  clear c15
  obtain ⟨y350, hy350⟩ : ∃ y_ : List (S80), y_ = (([] : List (S80)) ++ [(⟨t344, t345, t346, t347⟩ : S80)]) := ⟨_, rfl⟩
  replace H : (impl_candidates.j0 k a1 l2 l3 l4 y350 l0_0 l0_1 l0_2 l0_3 l0_4 l0_5) = some r := by (rw [hy350]; with_reducible exact H)
  have Ny350 := aM hy350
  clear hy350
  have H' := aM H
  clear H
  have hnb16 := NB349_343.out
  have hnc16 := NB343_349.out
  obtain ⟨hcz17_0, hcz17_1, hcz17_2, hcz17_3⟩ := swc4 BK349.out
  obtain ⟨hfz17_0, hfz17_1, hfz17_2, hfz17_3⟩ := swf4 BK349.out
  go_wp2_with (((with_reducible refine gate_builtin (b := .append) (xs := #[.tmp 27, .tmp 29]) rfl ?_); at_builtin; refine Kd.R_append k80 (w0 := w) w.heap.size rfl (.tmp 27) (.tmp 29) 31 80 (.agg #[(.int .i64 0), (.int .i64 0), (.int .i64 0), (.bool false)]) 32 rfl Try.underlying31 info80 rfl (by decide) (by omega) (.slice none 0 0) ([] : List (S80)) (⟨t344, t345, t346, t347⟩ : S80) [.int .i64 t344, .int .i64 t345, .int .i64 t346, .bool t347] (fun k_ => k_ ≠ gb349) (fun _ => False) rfl (by (go_simp; done)) ?aP (fun _ hk => hk.elim) ?aF ?aO ?aB ?aS ?aL ?_; (case aP => exact k80_mkM _ _ _ (⟨t344, t345, t346, t347⟩ : S80)); (case aB => exact (by repeat ((with_reducible first | exact HB.out | refine below_set ?_ GE349.out)))); (case aF => exact (fun k_ hk => Kd.freshB (g := gb349) (o := .cells #[.int .i64 t344, .int .i64 t345, .int .i64 t346, .bool t347] 80 (0, 0)) (by refine blk_put (cs := #[.int .i64 t344, .int .i64 t345, .int .i64 t346, .bool false]) ?_ 3 _ rfl; refine blk_put (cs := #[.int .i64 t344, .int .i64 t345, .int .i64 0, .bool false]) ?_ 2 _ rfl; refine blk_put (cs := #[.int .i64 t344, .int .i64 0, .int .i64 0, .bool false]) ?_ 1 _ rfl; refine blk_put (cs := #[.int .i64 0, .int .i64 0, .int .i64 0, .bool false]) ?_ 0 _ rfl; exact BK349.out) k_ hk)); (case aO => exact ((Kd.R_nil _ _ _ _ (fun k_ => k_ ≠ gb349)))); (case aS => exact (below_size (by repeat ((with_reducible first | exact HB.out | refine below_set ?_ GE349.out))))); (case aL => have := LMc15.out; omega); intro v351 w18 ho hb hg hat; rw [← Ny350.out] at ho; replace BK343 := aM (blk_grown (g := gb343) (o := .cells #[.slice A0_0 l0_0.length c0_0, .slice A0_1 l0_1.length c0_1, .slice A0_2 l0_2.length c0_2, .slice A0_3 l0_3.length c0_3, .slice A0_4 l0_4.length c0_4, .slice A0_5 l0_5.length c0_5] 38 (0, 0)) (by refine blk_far ?_ NB343_349.out _; refine blk_far ?_ NB343_349.out _; refine blk_far ?_ NB343_349.out _; refine blk_far ?_ NB343_349.out _; exact BK343.out) hg (by simp [Value.ownBlock])); replace BK349 := aM (blk_grown (g := gb349) (o := .cells #[.int .i64 t344, .int .i64 t345, .int .i64 t346, .bool t347] 80 (0, 0)) (by refine blk_put (cs := #[.int .i64 t344, .int .i64 t345, .int .i64 t346, .bool false]) ?_ 3 _ rfl; refine blk_put (cs := #[.int .i64 t344, .int .i64 t345, .int .i64 0, .bool false]) ?_ 2 _ rfl; refine blk_put (cs := #[.int .i64 t344, .int .i64 0, .int .i64 0, .bool false]) ?_ 1 _ rfl; refine blk_put (cs := #[.int .i64 0, .int .i64 0, .int .i64 0, .bool false]) ?_ 0 _ rfl; exact BK349.out) hg (by simp [Value.ownBlock])); replace HB := aM (hb); have HO352 := aM (ho); clear ho hb hg hat))
  go_meet
  case rel => exact ⟨_, (y350), H', ⟨by omega⟩, ⟨by exact HO352.out⟩, ⟨by exact BK343.out⟩, ⟨by exact BK349.out⟩, ⟨by repeat ((with_reducible exact HB.out))⟩⟩
 clear HC7 hcz13_0 hcz13_1 hcz13_2 hcz13_3 hcz9_0 hcz9_1 hcz9_2 hcz9_3 hcz9_4 hcz9_5 hfz13_0 hfz13_1 hfz13_2 hfz13_3 hfz9_0 hfz9_1 hfz9_2 hfz9_3 hfz9_4 hfz9_5
 obtain ⟨kq, x11_6, HA, HJ6, HO_11, BK343, BK349, HB⟩ := hcut
 cases kq with
 | zero => exact absurd HA.out (by simp [impl_candidates.j0])
 | succ kj6 =>
  have H := HA.out
  clear HA
  simp only [impl_candidates.j0] at H
  replace H := bS H
  obtain ⟨⟨t353, t354, t355, t356, t357⟩, A190, H⟩ := H
  replace H : (if t357 = true then (if x11_6.length < 4398046511104 then (impl_candidates.j1 kj6 a1 l3 l4 (x11_6 ++ [(⟨t353, t354, t355, t356⟩ : S80)]) l0_0 l0_1 l0_2 l0_3 l0_4 l0_5) else (none)) else (impl_candidates.j1 kj6 a1 l3 l4 x11_6 l0_0 l0_1 l0_2 l0_3 l0_4 l0_5)) = some r := H
  have A19 := aM A190
  clear A190
  have HC20 := aM H
  clear H
  have hnb21 := NB343_349.out
  have hnc21 := NB349_343.out
  obtain ⟨hcz22_0, hcz22_1, hcz22_2, hcz22_3, hcz22_4, hcz22_5⟩ := swc6 BK343.out
  obtain ⟨hfz22_0, hfz22_1, hfz22_2, hfz22_3, hfz22_4, hfz22_5⟩ := swf6 BK343.out
  go_upto_if 38 with (first | (go_at_call 103; (with_reducible refine (impl_outRoute.calls kj6 _ _ l0_0 _ _ l0_1 _ _ l0_2 _ _ l0_3 _ _ l0_4 _ _ l0_5 _ _ l2 a1 t353 t354 t355 t356 t357 _ (Kd.C_below HR0_0.out HB.out) HC0_0.out (Kd.C_below HR0_1.out HB.out) HC0_1.out (Kd.C_below HR0_2.out HB.out) HC0_2.out (Kd.C_below HR0_3.out HB.out) HC0_3.out (Kd.C_below HR0_4.out HB.out) HC0_4.out (Kd.C_below HR0_5.out HB.out) HC0_5.out (Kd.C_below HR2.out HB.out) HC2.out A19.out).mono ?_); rintro e w23 ⟨rfl, hb⟩; replace HO_11 := aM (Kd.R_below HO_11.out hb); replace BK343 := aK BK343 hb; replace BK349 := aK BK349 hb; replace HB := aB HB hb; (try clear hb)) | ((with_reducible refine gate_dst (N := 14) rfl ?_); refine box_event rfl (N := 14) rfl (cs := #[.int .i64 0, .int .i64 0, .int .i64 0, .bool false]) (t := 80) (by go_simp; done) ?_; intro gb358 hg w24 hbox hb; replace HO_11 := aM (Kd.R_below (Kd.R_elderB HO_11.out gb358 (Nat.le_of_eq hg.symm)) hb); have BK358 := aM (hbox); have GW358 := bGE HB.out hg; have GE358 := bGE HB.out hg; replace HB := aB HB hb; have NB343_358 := bLT BK343.out hg; have NB358_343 := bGT BK343.out hg; replace BK343 := aK BK343 hb; have NB349_358 := bLT BK349.out hg; have NB358_349 := bGT BK349.out hg; replace BK349 := aK BK349 hb; clear hb hbox hg; have hnb25 := NB358_343.out; have hnc25 := NB343_358.out; have hnb26 := NB358_349.out; have hnc26 := NB349_358.out; obtain ⟨hcz27_0, hcz27_1, hcz27_2, hcz27_3⟩ := swc4 BK358.out; obtain ⟨hfz27_0, hfz27_1, hfz27_2, hfz27_3⟩ := swf4 BK358.out))
  (try simp only [Act.put, List.setIfInBounds_toArray, List.set_cons_zero, List.set_cons_succ])
  go_cut [11] (fun v11 wc => ∃ (kq : Nat) (x11_19 : List (S80)), Aside0 (impl_candidates.j1 kq a1 l3 l4 x11_19 l0_0 l0_1 l0_2 l0_3 l0_4 l0_5 = some r) ∧ Aside0 (kq ≤ kj6) ∧ Aside0 (Kd.R k80 80 wc w.heap.size (fun k_ => k_ ≠ gb349 ∧ k_ ≠ gb358) v11 x11_19) ∧ Aside0 (wc.heap[gb343]? = some (.cells #[(.slice A0_0 l0_0.length c0_0), (.slice A0_1 l0_1.length c0_1), (.slice A0_2 l0_2.length c0_2), (.slice A0_3 l0_3.length c0_3), (.slice A0_4 l0_4.length c0_4), (.slice A0_5 l0_5.length c0_5)] 38 (0, 0))) ∧ Aside0 (wc.heap[gb349]? = some (.cells #[.int .i64 t344, .int .i64 t345, .int .i64 t346, .bool t347] 80 (0, 0))) ∧ Aside0 (wc.heap[gb358]? = some (.cells #[.int .i64 t353, .int .i64 t354, .int .i64 t355, .bool t356] 80 (0, 0))) ∧ Aside0 (Below w.heap.size w wc))
  case first =>
   have H := HC20.out
   clear HC20
   by_cases c28 : t357 = true
   rotate_left
   ·replace c28 := Bool.eq_false_iff.mpr c28
    subst c28
    rw [if_neg (show ¬ (false = true) by decide)] at H
    have H' := aM H
    clear H
    go_wp2
    go_meet
    case rel => exact ⟨_, (x11_6), H', ⟨by have := HJ6.out; omega⟩, ⟨by exact Kd.R_mono (Kd.R_far (p := ⟨gb358, 3, none⟩) (Kd.R_far (p := ⟨gb358, 2, none⟩) (Kd.R_far (p := ⟨gb358, 1, none⟩) (Kd.R_far (p := ⟨gb358, 0, none⟩) (Kd.R_mono HO_11.out (fun k_ hk => (⟨hk, hk.2⟩ : _ ∧ k_ ≠ gb358))) (fun _ hk => hk.2) (.int .i64 t353)) (fun _ hk => hk.2) (.int .i64 t354)) (fun _ hk => hk.2) (.int .i64 t355)) (fun _ hk => hk.2) (.bool t356)) (fun _ hk => ⟨hk.1.1, hk.1.2⟩)⟩, ⟨by refine blk_far ?_ NB343_358.out _; refine blk_far ?_ NB343_358.out _; refine blk_far ?_ NB343_358.out _; refine blk_far ?_ NB343_358.out _; exact BK343.out⟩, ⟨by refine blk_far ?_ NB349_358.out _; refine blk_far ?_ NB349_358.out _; refine blk_far ?_ NB349_358.out _; refine blk_far ?_ NB349_358.out _; exact BK349.out⟩, ⟨by refine blk_put (cs := #[.int .i64 t353, .int .i64 t354, .int .i64 t355, .bool false]) ?_ 3 _ rfl; refine blk_put (cs := #[.int .i64 t353, .int .i64 t354, .int .i64 0, .bool false]) ?_ 2 _ rfl; refine blk_put (cs := #[.int .i64 t353, .int .i64 0, .int .i64 0, .bool false]) ?_ 1 _ rfl; refine blk_put (cs := #[.int .i64 0, .int .i64 0, .int .i64 0, .bool false]) ?_ 0 _ rfl; exact BK358.out⟩, ⟨by repeat ((with_reducible first | exact HB.out | refine below_set ?_ GE358.out))⟩⟩
   subst c28
   rw [if_pos rfl] at H
   by_cases c29 : x11_6.length < 4398046511104
   rotate_left
   ·rw [if_neg c29] at H
    exact absurd H (by simp)
   rw [if_pos c29] at H
   have LMc29 := aM c29
   clear c29
   obtain ⟨y359, hy359⟩ : ∃ y_ : List (S80), y_ = (x11_6 ++ [(⟨t353, t354, t355, t356⟩ : S80)]) := ⟨_, rfl⟩
   replace H : (impl_candidates.j1 kj6 a1 l3 l4 y359 l0_0 l0_1 l0_2 l0_3 l0_4 l0_5) = some r := by (rw [hy359]; with_reducible exact H)
   have Ny359 := aM hy359
   clear hy359
   have H' := aM H
   clear H
   have hnb30 := NB358_343.out
   have hnc30 := NB343_358.out
   have hnb31 := NB358_349.out
   have hnc31 := NB349_358.out
   obtain ⟨hcz32_0, hcz32_1, hcz32_2, hcz32_3⟩ := swc4 BK358.out
   obtain ⟨hfz32_0, hfz32_1, hfz32_2, hfz32_3⟩ := swf4 BK358.out
   go_wp2_with (((with_reducible refine gate_builtin (b := .append) (xs := #[.tmp 39, .tmp 41]) rfl ?_); at_builtin; refine Kd.R_append k80 (w0 := w) w.heap.size rfl (.tmp 39) (.tmp 41) 31 80 (.agg #[(.int .i64 0), (.int .i64 0), (.int .i64 0), (.bool false)]) 32 rfl Try.underlying31 info80 rfl (by decide) (by omega) u11 x11_6 (⟨t353, t354, t355, t356⟩ : S80) [.int .i64 t353, .int .i64 t354, .int .i64 t355, .bool t356] (fun k_ => k_ ≠ gb349 ∧ k_ ≠ gb358) (fun _ => False) rfl (by (go_simp; done)) ?aP (fun _ hk => hk.elim) ?aF ?aO ?aB ?aS ?aL ?_; (case aP => exact k80_mkM _ _ _ (⟨t353, t354, t355, t356⟩ : S80)); (case aB => exact (by repeat ((with_reducible first | exact HB.out | refine below_set ?_ GE358.out)))); (case aF => exact (fun k_ hk => ⟨Kd.freshB (g := gb349) (o := .cells #[.int .i64 t344, .int .i64 t345, .int .i64 t346, .bool t347] 80 (0, 0)) (by refine blk_far ?_ NB349_358.out _; refine blk_far ?_ NB349_358.out _; refine blk_far ?_ NB349_358.out _; refine blk_far ?_ NB349_358.out _; exact BK349.out) k_ hk, Kd.freshB (g := gb358) (o := .cells #[.int .i64 t353, .int .i64 t354, .int .i64 t355, .bool t356] 80 (0, 0)) (by refine blk_put (cs := #[.int .i64 t353, .int .i64 t354, .int .i64 t355, .bool false]) ?_ 3 _ rfl; refine blk_put (cs := #[.int .i64 t353, .int .i64 t354, .int .i64 0, .bool false]) ?_ 2 _ rfl; refine blk_put (cs := #[.int .i64 t353, .int .i64 0, .int .i64 0, .bool false]) ?_ 1 _ rfl; refine blk_put (cs := #[.int .i64 0, .int .i64 0, .int .i64 0, .bool false]) ?_ 0 _ rfl; exact BK358.out) k_ hk⟩)); (case aO => exact (by exact Kd.R_mono (Kd.R_far (p := ⟨gb358, 3, none⟩) (Kd.R_far (p := ⟨gb358, 2, none⟩) (Kd.R_far (p := ⟨gb358, 1, none⟩) (Kd.R_far (p := ⟨gb358, 0, none⟩) (Kd.R_mono HO_11.out (fun k_ hk => (⟨hk, hk.2⟩ : _ ∧ k_ ≠ gb358))) (fun _ hk => hk.2) (.int .i64 t353)) (fun _ hk => hk.2) (.int .i64 t354)) (fun _ hk => hk.2) (.int .i64 t355)) (fun _ hk => hk.2) (.bool t356)) (fun _ hk => ⟨hk.1.1, hk.1.2⟩))); (case aS => exact (below_size (by repeat ((with_reducible first | exact HB.out | refine below_set ?_ GE358.out))))); (case aL => have := LMc29.out; omega); intro v360 w33 ho hb hg hat; rw [← Ny359.out] at ho; replace BK343 := aM (blk_grown (g := gb343) (o := .cells #[.slice A0_0 l0_0.length c0_0, .slice A0_1 l0_1.length c0_1, .slice A0_2 l0_2.length c0_2, .slice A0_3 l0_3.length c0_3, .slice A0_4 l0_4.length c0_4, .slice A0_5 l0_5.length c0_5] 38 (0, 0)) (by refine blk_far ?_ NB343_358.out _; refine blk_far ?_ NB343_358.out _; refine blk_far ?_ NB343_358.out _; refine blk_far ?_ NB343_358.out _; exact BK343.out) hg (Kd.R_ne HO_11.out BK343.out (by decide))); replace BK349 := aM (blk_grown (g := gb349) (o := .cells #[.int .i64 t344, .int .i64 t345, .int .i64 t346, .bool t347] 80 (0, 0)) (by refine blk_far ?_ NB349_358.out _; refine blk_far ?_ NB349_358.out _; refine blk_far ?_ NB349_358.out _; refine blk_far ?_ NB349_358.out _; exact BK349.out) hg (Kd.R_away HO_11.out (fun _ hk => hk.1))); replace BK358 := aM (blk_grown (g := gb358) (o := .cells #[.int .i64 t353, .int .i64 t354, .int .i64 t355, .bool t356] 80 (0, 0)) (by refine blk_put (cs := #[.int .i64 t353, .int .i64 t354, .int .i64 t355, .bool false]) ?_ 3 _ rfl; refine blk_put (cs := #[.int .i64 t353, .int .i64 t354, .int .i64 0, .bool false]) ?_ 2 _ rfl; refine blk_put (cs := #[.int .i64 t353, .int .i64 0, .int .i64 0, .bool false]) ?_ 1 _ rfl; refine blk_put (cs := #[.int .i64 0, .int .i64 0, .int .i64 0, .bool false]) ?_ 0 _ rfl; exact BK358.out) hg (Kd.R_away HO_11.out (fun _ hk => hk.2))); replace HB := aM (hb); have HO361 := aM (ho); clear HO_11; clear ho hb hg hat))
   go_meet
   case rel => exact ⟨_, (y359), H', ⟨by have := HJ6.out; omega⟩, ⟨by exact HO361.out⟩, ⟨by exact BK343.out⟩, ⟨by exact BK349.out⟩, ⟨by exact BK358.out⟩, ⟨by repeat ((with_reducible exact HB.out))⟩⟩
  clear HC20 hcz22_0 hcz22_1 hcz22_2 hcz22_3 hcz22_4 hcz22_5 hcz27_0 hcz27_1 hcz27_2 hcz27_3 hfz22_0 hfz22_1 hfz22_2 hfz22_3 hfz22_4 hfz22_5 hfz27_0 hfz27_1 hfz27_2 hfz27_3
  obtain ⟨kq, x11_19, HA, HJ19, HO_11, BK343, BK349, BK358, HB⟩ := hcut
  cases kq with
  | zero => exact absurd HA.out (by simp [impl_candidates.j1])
  | succ kj19 =>
   have H := HA.out
   clear HA
   simp only [impl_candidates.j1] at H
   replace H := bS H
   obtain ⟨t362, A340, H⟩ := H
   replace H : (impl_candidates.l0 kj19 a1 l4 x11_19 t362 (t362.length : Int) 0 l0_0 l0_1 l0_2 l0_3 l0_4 l0_5) = some r := H
   have A34 := aM A340
   clear A340
   have H' := aM H
   clear H
   have hnb35 := NB343_349.out
   have hnc35 := NB349_343.out
   have hnb36 := NB343_358.out
   have hnc36 := NB358_343.out
   obtain ⟨hcz37_0, hcz37_1, hcz37_2, hcz37_3, hcz37_4, hcz37_5⟩ := swc6 BK343.out
   obtain ⟨hfz37_0, hfz37_1, hfz37_2, hfz37_3, hfz37_4, hfz37_5⟩ := swf6 BK343.out
   go_wp2_with ((go_at_call 65; (with_reducible refine (impl_neighbours.calls kj19 _ _ l0_0 _ _ l0_1 _ _ l0_2 _ _ l0_3 _ _ l0_4 _ _ l0_5 a1 _ _ l3 t362 _ (Kd.C_below HR0_0.out HB.out) HC0_0.out (Kd.C_below HR0_1.out HB.out) HC0_1.out (Kd.C_below HR0_2.out HB.out) HC0_2.out (Kd.C_below HR0_3.out HB.out) HC0_3.out (Kd.C_below HR0_4.out HB.out) HC0_4.out (Kd.C_below HR0_5.out HB.out) HC0_5.out (Kd.C_below HR3.out HB.out) HC3.out A34.out).mono ?_); rintro e w38 ⟨v363, rfl, ho0, hb⟩; replace HO_11 := aM (Kd.R_below HO_11.out hb); have HO364 := aM (Kd.R_lower ho0 (below_size HB.out)); replace BK343 := aK BK343 hb; replace BK349 := aK BK349 hb; replace BK358 := aK BK358 hb; replace HB := aB HB hb; (try clear hb); (try clear ho0); obtain ⟨Ao39, co39, eo39⟩ := Kd.R_slice HO364.out; subst eo39))
   go_loopg [11, 48] kj19 (fun kq v11 v48 w' => ∃ (x11_3 : List (S80)) (x48_3 : Int), v48 = .int .i64 x48_3 ∧ Aside0 (impl_candidates.l0 kq a1 l4 x11_3 t362 (t362.length : Int) x48_3 l0_0 l0_1 l0_2 l0_3 l0_4 l0_5 = some r) ∧ Aside0 (kq ≤ kj19) ∧ Aside0 (Kd.R k80 80 w' w.heap.size (fun k_ => k_ ≠ gb349 ∧ k_ ≠ gb358) v11 x11_3) ∧ Aside0 (Kd.R (Kd.int .i64) 3 w' w.heap.size (fun _ => True) (.slice Ao39 t362.length co39) t362) ∧ Aside0 (w'.heap[gb343]? = some (.cells #[(.slice A0_0 l0_0.length c0_0), (.slice A0_1 l0_1.length c0_1), (.slice A0_2 l0_2.length c0_2), (.slice A0_3 l0_3.length c0_3), (.slice A0_4 l0_4.length c0_4), (.slice A0_5 l0_5.length c0_5)] 38 (0, 0))) ∧ Aside0 (w'.heap[gb349]? = some (.cells #[.int .i64 t344, .int .i64 t345, .int .i64 t346, .bool t347] 80 (0, 0))) ∧ Aside0 (w'.heap[gb358]? = some (.cells #[.int .i64 t353, .int .i64 t354, .int .i64 t355, .bool t356] 80 (0, 0))) ∧ Aside0 (Below w.heap.size w w'))
   case atStart => exact ⟨(x11_19), (0), (by rfl), H', ⟨Nat.le_refl _⟩, ⟨by exact HO_11.out⟩, ⟨by exact HO364.out⟩, ⟨by exact BK343.out⟩, ⟨by exact BK349.out⟩, ⟨by exact BK358.out⟩, ⟨by repeat ((with_reducible exact HB.out))⟩⟩
   clear H'
   clear hcz37_0 hcz37_1 hcz37_2 hcz37_3 hcz37_4 hcz37_5 hfz37_0 hfz37_1 hfz37_2 hfz37_3 hfz37_4 hfz37_5
   obtain ⟨x11_3, x48_3, rfl, HA, HK3, HO_11, HO_46, BK343, BK349, BK358, HB⟩ := hrel
   cases gk with
   | zero => exact absurd HA.out (by simp [impl_candidates.l0])
   | succ k3 =>
    have H := HA.out
    clear HA
    simp only [impl_candidates.l0] at H
    by_cases c40 : x48_3 < (t362.length : Int)
    rotate_left
    ·rw [if_neg c40] at H
     have c40b0 : decide (x48_3 < (t362.length : Int)) = false := decide_eq_false c40
     clear c40
     obtain rfl := Option.some.inj H
     go_wp2
     go_ret
     exact ⟨_, by rfl, by exact Kd.R_mono HO_11.out (fun _ hk => trivial), by repeat ((with_reducible exact HB.out))⟩
    rw [if_pos c40] at H
    have c40b0 : decide (x48_3 < (t362.length : Int)) = true := decide_eq_true c40
    clear c40
    by_cases c41 : 0 ≤ x48_3
    rotate_left
    ·rw [if_neg c41] at H
     exact absurd H (by simp)
    rw [if_pos c41] at H
    have c41b0 : decide (0 ≤ x48_3) = true := decide_eq_true c41
    clear c41
    by_cases c42 : x48_3 < (t362.length : Int)
    rotate_left
    ·rw [if_neg c42] at H
     exact absurd H (by simp)
    rw [if_pos c42] at H
    have c42b0 : decide (x48_3 < (t362.length : Int)) = true := decide_eq_true c42
    clear c42
    have HC43 := aM H
    clear H
    have p365 : 0 ≤ (x48_3 : Int) := oD ‹_›
    have q365 : x48_3 < (t362.length : Int) := oD ‹_›
    obtain ⟨ad365, e365, hx365_0⟩ := Kd.at_int (Kd.R_reads' HO_46.out).2.2 x48_3 p365 q365
    cases e365
    replace p365 := eq_true p365
    replace q365 := eq_true q365
    go_upto_region 11 with (fail)
    go_cut [63] (fun v63 wc => ∃ (kq : Nat) (x63_42 : Bool), v63 = .bool x63_42 ∧ Aside0 (impl_candidates.j3 kq a1 l4 x11_3 (rd t362 x48_3) t362 (t362.length : Int) x48_3 x63_42 l0_0 l0_1 l0_2 l0_3 l0_4 l0_5 = some r) ∧ Aside0 (kq ≤ k3) ∧ Aside0 (Kd.R k80 80 wc w.heap.size (fun k_ => k_ ≠ gb349 ∧ k_ ≠ gb358) u11 x11_3) ∧ Aside0 (Kd.R (Kd.int .i64) 3 wc w.heap.size (fun _ => True) (.slice (some ad365) t362.length co39) t362) ∧ Aside0 (wc.heap[gb343]? = some (.cells #[(.slice A0_0 l0_0.length c0_0), (.slice A0_1 l0_1.length c0_1), (.slice A0_2 l0_2.length c0_2), (.slice A0_3 l0_3.length c0_3), (.slice A0_4 l0_4.length c0_4), (.slice A0_5 l0_5.length c0_5)] 38 (0, 0))) ∧ Aside0 (wc.heap[gb349]? = some (.cells #[.int .i64 t344, .int .i64 t345, .int .i64 t346, .bool t347] 80 (0, 0))) ∧ Aside0 (wc.heap[gb358]? = some (.cells #[.int .i64 t353, .int .i64 t354, .int .i64 t355, .bool t356] 80 (0, 0))) ∧ Aside0 (Below w.heap.size w wc))
    case first =>
     have H := HC43.out
     clear HC43
     by_cases c44 : 0 ≤ (rd t362 x48_3)
     rotate_left
     ·rw [if_neg c44] at H
      exact absurd H (by simp)
     rw [if_pos c44] at H
     have c44b0 : decide (0 ≤ (rd t362 x48_3)) = true := decide_eq_true c44
     clear c44
     (skip)
     by_cases c45 : (rd t362 x48_3) < (l4.length : Int)
     rotate_left
     ·rw [if_neg c45] at H
      exact absurd H (by simp)
     rw [if_pos c45] at H
     have c45b0 : decide ((rd t362 x48_3) < (l4.length : Int)) = true := decide_eq_true c45
     clear c45
     by_cases c46 : ((rd_T80 l4 (rd t362 x48_3)).f0) = (-3)
     ·rw [if_pos c46] at H
      have c46b0 : (((rd_T80 l4 (rd t362 x48_3)).f0) == (-3)) = true := beq_iff_eq.mpr c46
      have c46b1 : (((rd_T80 l4 (rd t362 x48_3)).f0) != (-3)) = false := bne_eq_false_iff_eq.mpr c46
      clear c46
      have H' := aM H
      clear H
      have p366 : 0 ≤ ((rd t362 x48_3) : Int) := oD ‹_›
      have q366 : (rd t362 x48_3) < (l4.length : Int) := oD ‹_›
      obtain ⟨ad366, e366, hx366_0, hx366_1, hx366_2, hx366_3⟩ := at_T80 HR4.out (rd t362 x48_3) p366 q366
      cases e366
      replace hx366_0 := swB HB.out hx366_0
      replace hx366_1 := swB HB.out hx366_1
      replace hx366_2 := swB HB.out hx366_2
      replace hx366_3 := swB HB.out hx366_3
      replace p366 := eq_true p366
      replace q366 := eq_true q366
      go_wp2
      go_meet
      case rel => exact ⟨_, (true), (by rfl), H', ⟨by have := HJ6.out; have := HJ19.out; have := HK3.out; omega⟩, ⟨by exact HO_11.out⟩, ⟨by exact HO_46.out⟩, ⟨by exact BK343.out⟩, ⟨by exact BK349.out⟩, ⟨by exact BK358.out⟩, ⟨by repeat ((with_reducible exact HB.out))⟩⟩
     rw [if_neg c46] at H
     have c46b0 : (((rd_T80 l4 (rd t362 x48_3)).f0) == (-3)) = false := beq_eq_false_iff_ne.mpr c46
     have c46b1 : (((rd_T80 l4 (rd t362 x48_3)).f0) != (-3)) = true := bne_iff_ne.mpr c46
     replace H := bS H
     obtain ⟨t367, A470, H⟩ := H
     replace H : (impl_candidates.j3 k3 a1 l4 x11_3 (rd t362 x48_3) t362 (t362.length : Int) x48_3 t367 l0_0 l0_1 l0_2 l0_3 l0_4 l0_5) = some r := H
     have A47 := aM A470
     clear A470
     have H' := aM H
     clear H
     have p366 : 0 ≤ ((rd t362 x48_3) : Int) := oD ‹_›
     have q366 : (rd t362 x48_3) < (l4.length : Int) := oD ‹_›
     obtain ⟨ad366, e366, hx366_0, hx366_1, hx366_2, hx366_3⟩ := at_T80 HR4.out (rd t362 x48_3) p366 q366
     cases e366
     replace hx366_0 := swB HB.out hx366_0
     replace hx366_1 := swB HB.out hx366_1
     replace hx366_2 := swB HB.out hx366_2
     replace hx366_3 := swB HB.out hx366_3
     replace p366 := eq_true p366
     replace q366 := eq_true q366
     go_wp2_with ((go_at_call 104; (with_reducible refine (impl_comesTo.calls k3 _ _ l4 (rd t362 x48_3) a1 t367 _ (Kd.C_below HR4.out HB.out) HC4.out A47.out).mono ?_); rintro e w' ⟨rfl, ⟨nd, rfl⟩⟩))
     go_meet
     case rel => exact ⟨_, (t367), (by rfl), H', ⟨by have := HJ6.out; have := HJ19.out; have := HK3.out; omega⟩, ⟨by (with_reducible repeat (apply Kd.R_drewN)); exact HO_11.out⟩, ⟨by (with_reducible repeat (apply Kd.R_drewN)); exact HO_46.out⟩, ⟨by (with_reducible repeat (refine blk_drewN ?_ _)); exact BK343.out⟩, ⟨by (with_reducible repeat (refine blk_drewN ?_ _)); exact BK349.out⟩, ⟨by (with_reducible repeat (refine blk_drewN ?_ _)); exact BK358.out⟩, ⟨by repeat ((with_reducible first | exact HB.out | apply pw_below_drewN))⟩⟩
    clear HC43 c40b0 c41b0 c42b0 hx365_0 p365 q365
    obtain ⟨kq, x63_42, rfl, HA, HJ42, HO_11, HO_46, BK343, BK349, BK358, HB⟩ := hcut
    cases kq with
    | zero => exact absurd HA.out (by simp [impl_candidates.j3])
    | succ kj42 =>
     have H := HA.out
     clear HA
     simp only [impl_candidates.j3] at H
     by_cases c48 : x63_42 = true
     ·subst c48
      rw [if_pos rfl] at H
      have H' := aM H
      clear H
      go_wp2
      go_roundg kj42
      case measure => have := HJ6.out; have := HJ19.out; have := HK3.out; have := HJ42.out; omega
      case rel => exact ⟨(x11_3), (wrap64 (x48_3 + 1)), (by rfl), H', ⟨by have := HJ6.out; have := HJ19.out; have := HK3.out; have := HJ42.out; omega⟩, ⟨by exact HO_11.out⟩, ⟨by exact HO_46.out⟩, ⟨by exact BK343.out⟩, ⟨by exact BK349.out⟩, ⟨by exact BK358.out⟩, ⟨by repeat ((with_reducible exact HB.out))⟩⟩
     replace c48 := Bool.eq_false_iff.mpr c48
     subst c48
     rw [if_neg (show ¬ (false = true) by decide)] at H
     by_cases c49 : 0 ≤ (rd t362 x48_3)
     rotate_left
     ·rw [if_neg c49] at H
      exact absurd H (by simp)
     rw [if_pos c49] at H
     have c49b0 : decide (0 ≤ (rd t362 x48_3)) = true := decide_eq_true c49
     clear c49
     by_cases c50 : (rd t362 x48_3) < (l4.length : Int)
     rotate_left
     ·rw [if_neg c50] at H
      exact absurd H (by simp)
     rw [if_pos c50] at H
     have c50b0 : decide ((rd t362 x48_3) < (l4.length : Int)) = true := decide_eq_true c50
     clear c50
     replace H := bS H
     obtain ⟨⟨t369, t370, t371, t372, t373⟩, A510, H⟩ := H
     replace H : (if t373 = true then (if x11_3.length < 4398046511104 then (impl_candidates.l0 kj42 a1 l4 (x11_3 ++ [(⟨t369, t370, t371, t372⟩ : S80)]) t362 (t362.length : Int) (wrap64 (x48_3 + 1)) l0_0 l0_1 l0_2 l0_3 l0_4 l0_5) else (none)) else (impl_candidates.l0 kj42 a1 l4 x11_3 t362 (t362.length : Int) (wrap64 (x48_3 + 1)) l0_0 l0_1 l0_2 l0_3 l0_4 l0_5)) = some r := H
     have A51 := aM A510
     clear A510
     by_cases c52 : t373 = true
     rotate_left
     ·replace c52 := Bool.eq_false_iff.mpr c52
      subst c52
      rw [if_neg (show ¬ (false = true) by decide)] at H
      have H' := aM H
      clear H
      try go_wp2
      replace HO_11 := aM (Kd.R_drew HO_11.out)
      replace HO_46 := aM (Kd.R_drew HO_46.out)
      replace BK343 := aM (blk_drew BK343.out)
      replace BK349 := aM (blk_drew BK349.out)
      replace BK358 := aM (blk_drew BK358.out)
      replace HB := aM (below_drew1 HB.out)
      have p368 : 0 ≤ ((rd t362 x48_3) : Int) := oD ‹_›
      have q368 : (rd t362 x48_3) < (l4.length : Int) := oD ‹_›
      obtain ⟨ad368, e368, hx368_0, hx368_1, hx368_2, hx368_3⟩ := at_T80 HR4.out (rd t362 x48_3) p368 q368
      have hw368_3 := hx368_3
      have hw368_2 := hx368_2
      have hw368_1 := hx368_1
      have hw368_0 := hx368_0
      cases e368
      replace hx368_0 := swB HB.out hx368_0
      replace hx368_1 := swB HB.out hx368_1
      replace hx368_2 := swB HB.out hx368_2
      replace hx368_3 := swB HB.out hx368_3
      replace p368 := eq_true p368
      replace q368 := eq_true q368
      refine start_ (n := 14) (S := fun w' => w'.cell? ⟨gb343, 0, none⟩ = some (.slice A0_0 l0_0.length c0_0) ∧ w'.cell? ⟨gb343, 1, none⟩ = some (.slice A0_1 l0_1.length c0_1) ∧ w'.cell? ⟨gb343, 2, none⟩ = some (.slice A0_2 l0_2.length c0_2) ∧ w'.cell? ⟨gb343, 3, none⟩ = some (.slice A0_3 l0_3.length c0_3) ∧ w'.cell? ⟨gb343, 4, none⟩ = some (.slice A0_4 l0_4.length c0_4) ∧ w'.cell? ⟨gb343, 5, none⟩ = some (.slice A0_5 l0_5.length c0_5) ∧ w'.cell? (ad368.add (((rd t362 x48_3)).toNat * 4)) = some (.int .i64 ((rd_T80 l4 (rd t362 x48_3)).f0)) ∧ w'.cell? ⟨(ad368.add (((rd t362 x48_3)).toNat * 4)).block, (ad368.add (((rd t362 x48_3)).toNat * 4)).off + 1, none⟩ = some (.int .i64 ((rd_T80 l4 (rd t362 x48_3)).f1)) ∧ w'.cell? ⟨(ad368.add (((rd t362 x48_3)).toNat * 4)).block, (ad368.add (((rd t362 x48_3)).toNat * 4)).off + 2, none⟩ = some (.int .i64 ((rd_T80 l4 (rd t362 x48_3)).f2)) ∧ w'.cell? ⟨(ad368.add (((rd t362 x48_3)).toNat * 4)).block, (ad368.add (((rd t362 x48_3)).toNat * 4)).off + 3, none⟩ = some (.bool ((rd_T80 l4 (rd t362 x48_3)).f3))) (ds := []) (bA 14 0) (by kernel_rfl) rfl rfl (andc6 BK343.out ⟨(swB HB.out hw368_0), (swB HB.out hw368_1), (swB HB.out hw368_2), (swB HB.out hw368_3)⟩) (fun hHeld => ?_); refine with_tabW impl_candidates.tab12 impl_candidates.bits12 (fun HT_ HW_ => ?_)
      generalize wc.drew = w67 at HO_11 HO_46 BK343 BK349 BK358 HB hx368_0 hx368_1 hx368_2 hx368_3 hHeld ⊢
      refine pure_ (i := 1) (N := some 66) (bA 14 2) rfl rfl (any_of HT_.out (by kernel_rfl)) (fun _ _ _ h => h) (.inl ⟨by rfl, by intro w'; go_simp; with_reducible rfl⟩) (by simp only [Act.put, sb0, sb1, sb2, i64_w, i32_w]; rfl) ?_
      refine pure_ (i := 2) (N := some 67) (bA 14 6) rfl rfl (any_of HT_.out (by kernel_rfl)) (fun _ _ _ h => h) (.inl ⟨by rfl, by intro w'; go_simp; with_reducible rfl⟩) (by simp only [Act.put, sb0, sb1, sb2, i64_w, i32_w]; rfl) ?_
      refine pure_ (i := 3) (N := some 68) (bA 14 14) rfl rfl (any_of HT_.out (by kernel_rfl)) (fun _ _ _ h => h) (.inl ⟨by rfl, by intro w'; go_simp; with_reducible rfl⟩) (by simp only [Act.put, sb0, sb1, sb2, i64_w, i32_w]; rfl) ?_
      refine pure_ (i := 4) (N := some 69) (bA 14 30) rfl rfl (any_of HT_.out (by kernel_rfl)) (fun _ _ _ h => h) (.inl ⟨by rfl, by intro w'; go_simp; with_reducible rfl⟩) (by simp only [Act.put, sb0, sb1, sb2, i64_w, i32_w]; rfl) ?_
      refine pure_ (i := 5) (N := some 70) (bA 14 62) rfl rfl (any_of HT_.out (by kernel_rfl)) (fun _ _ _ h => h) (.inl ⟨by rfl, by intro w'; go_simp; with_reducible rfl⟩) (by simp only [Act.put, sb0, sb1, sb2, i64_w, i32_w]; rfl) ?_
      refine take_ (i := 0) (N := some 65) (bA 14 63) rfl rfl (take_ofW HT_.out HW_.out (by kernel_rfl)) (fun _ _ _ h => h) (.inl ⟨by rfl, by rintro w' ⟨s0, s1, s2, s3, s4, s5, s6, s7, s8, s9⟩; go_simp; with_reducible rfl⟩) hHeld (by simp only [Act.put, sb0, sb1, sb2, i64_w, i32_w]; rfl) ?_
      refine take_ (i := 6) (N := some 71) (bA 14 127) rfl rfl (take_ofW HT_.out HW_.out (by kernel_rfl)) (fun _ _ _ h => h) (.inl ⟨by rfl, by rintro w' ⟨s0, s1, s2, s3, s4, s5, s6, s7, s8, s9⟩; go_simp; with_reducible rfl⟩) hHeld (by simp only [Act.put, sb0, sb1, sb2, i64_w, i32_w]; rfl) ?_
      refine join_ (σ := Nat) 2 (bA 14 4095) (fun s_ => [(72, .tuple #[.agg #[.int .i64 t369, .int .i64 t370, .int .i64 t371, .bool t372], .bool false]), (18, .pointer (some ⟨s_, 0, none⟩)), (64, .tuple #[.agg #[.int .i64 t369, .int .i64 t370, .int .i64 t371, .bool t372], .bool false]), (73, .agg #[.int .i64 t369, .int .i64 t370, .int .i64 t371, .bool t372]), (74, .bool false)]) (fun s_ w' => (w'.cell? ⟨gb343, 0, none⟩ = some (.slice A0_0 l0_0.length c0_0) ∧ w'.cell? ⟨gb343, 1, none⟩ = some (.slice A0_1 l0_1.length c0_1) ∧ w'.cell? ⟨gb343, 2, none⟩ = some (.slice A0_2 l0_2.length c0_2) ∧ w'.cell? ⟨gb343, 3, none⟩ = some (.slice A0_3 l0_3.length c0_3) ∧ w'.cell? ⟨gb343, 4, none⟩ = some (.slice A0_4 l0_4.length c0_4) ∧ w'.cell? ⟨gb343, 5, none⟩ = some (.slice A0_5 l0_5.length c0_5) ∧ w'.cell? (ad368.add (((rd t362 x48_3)).toNat * 4)) = some (.int .i64 ((rd_T80 l4 (rd t362 x48_3)).f0)) ∧ w'.cell? ⟨(ad368.add (((rd t362 x48_3)).toNat * 4)).block, (ad368.add (((rd t362 x48_3)).toNat * 4)).off + 1, none⟩ = some (.int .i64 ((rd_T80 l4 (rd t362 x48_3)).f1)) ∧ w'.cell? ⟨(ad368.add (((rd t362 x48_3)).toNat * 4)).block, (ad368.add (((rd t362 x48_3)).toNat * 4)).off + 2, none⟩ = some (.int .i64 ((rd_T80 l4 (rd t362 x48_3)).f2)) ∧ w'.cell? ⟨(ad368.add (((rd t362 x48_3)).toNat * 4)).block, (ad368.add (((rd t362 x48_3)).toNat * 4)).off + 3, none⟩ = some (.bool ((rd_T80 l4 (rd t362 x48_3)).f3))) ∧ (Kd.R k80 80 w' w.heap.size (fun k_ => k_ ≠ gb349 ∧ k_ ≠ gb358 ∧ k_ ≠ s_) u11 x11_3) ∧ (Kd.R (Kd.int .i64) 3 w' w.heap.size (fun _ => True) (.slice (some ad365) t362.length co39) t362) ∧ (w'.heap[gb343]? = some (.cells #[.slice A0_0 l0_0.length c0_0, .slice A0_1 l0_1.length c0_1, .slice A0_2 l0_2.length c0_2, .slice A0_3 l0_3.length c0_3, .slice A0_4 l0_4.length c0_4, .slice A0_5 l0_5.length c0_5] 38 (0, 0))) ∧ (w'.heap[gb349]? = some (.cells #[.int .i64 t344, .int .i64 t345, .int .i64 t346, .bool t347] 80 (0, 0))) ∧ (w'.heap[gb358]? = some (.cells #[.int .i64 t353, .int .i64 t354, .int .i64 t355, .bool t356] 80 (0, 0))) ∧ (w'.heap[s_]? = some (.cells #[.int .i64 0, .int .i64 0, .int .i64 0, .bool false] 80 (0, 0))) ∧ (w.heap.size ≤ s_) ∧ (w.heap.size ≤ s_) ∧ (gb343 ≠ s_) ∧ (s_ ≠ gb343) ∧ (gb349 ≠ s_) ∧ (s_ ≠ gb349) ∧ (gb358 ≠ s_) ∧ (s_ ≠ gb358) ∧ (Below w.heap.size w w')) ?_ ?_
      rotate_left
      ·intro hCont
       refine two_ (i := 7) (j := 11) (Ni := some 72) (Nj := some 18) (bA 14 255) (bA 14 2175) rfl rfl rfl rfl (two_of HT_.out (by kernel_rfl)) (by decide) (by decide) (fun K hK => ?_) (fun K hK => ?_)
       ·skip
        refine goes_ Try.func105 (by kernel_rfl) rfl #[.agg #[.slice A0_0 l0_0.length c0_0, .slice A0_1 l0_1.length c0_1, .slice A0_2 l0_2.length c0_2, .slice A0_3 l0_3.length c0_3, .slice A0_4 l0_4.length c0_4, .slice A0_5 l0_5.length c0_5], .int .i64 a1, .int .i64 (rd t362 x48_3), .agg #[.int .i64 ((rd_T80 l4 (rd t362 x48_3)).f0), .int .i64 ((rd_T80 l4 (rd t362 x48_3)).f1), .int .i64 ((rd_T80 l4 (rd t362 x48_3)).f2), .bool ((rd_T80 l4 (rd t362 x48_3)).f3)]] (by rfl) rfl rfl (by (try simp only [List.map_toArray, List.map_cons, List.map_nil]); rfl) ?_
        with_reducible refine (impl_imported.calls kj42 _ _ l0_0 _ _ l0_1 _ _ l0_2 _ _ l0_3 _ _ l0_4 _ _ l0_5 a1 (rd t362 x48_3) ((rd_T80 l4 (rd t362 x48_3)).f0) ((rd_T80 l4 (rd t362 x48_3)).f1) ((rd_T80 l4 (rd t362 x48_3)).f2) ((rd_T80 l4 (rd t362 x48_3)).f3) t369 t370 t371 t372 false _ ?side1 ?side2 ?side3 ?side4 ?side5 ?side6 ?side7 ?side8 ?side9 ?side10 ?side11 ?side12 A51.out).mono ?_
        (case side1 => exact (Kd.C_below HR0_0.out HB.out))
        (case side2 => exact HC0_0.out)
        (case side3 => exact (Kd.C_below HR0_1.out HB.out))
        (case side4 => exact HC0_1.out)
        (case side5 => exact (Kd.C_below HR0_2.out HB.out))
        (case side6 => exact HC0_2.out)
        (case side7 => exact (Kd.C_below HR0_3.out HB.out))
        (case side8 => exact HC0_3.out)
        (case side9 => exact (Kd.C_below HR0_4.out HB.out))
        (case side10 => exact HC0_4.out)
        (case side11 => exact (Kd.C_below HR0_5.out HB.out))
        (case side12 => exact HC0_5.out)
        rintro e w68 ⟨rfl, hb⟩
        refine ⟨_, rfl, ?_⟩
        replace HO_11 := aM (Kd.R_below HO_11.out hb)
        replace HO_46 := aM (Kd.R_below HO_46.out hb)
        replace BK343 := aK BK343 hb
        replace BK349 := aK BK349 hb
        replace BK358 := aK BK358 hb
        replace HB := aB HB hb
        (try clear hb)
        refine hK.out _ _ (andc6 BK343.out ⟨(swB HB.out hw368_0), (swB HB.out hw368_1), (swB HB.out hw368_2), (swB HB.out hw368_3)⟩) (fun hHeld => ?_)
        clear hK K
        refine norm_ (a' := ?_) ?_ ?_
        rotate_left
        ·show Act.put _ (some 72) _ = _
         simp only [Act.put, sb0, sb1, sb2, i64_w, i32_w]
         rfl
        refine pure_ (i := 8) (N := some 64) (bA 14 511) rfl rfl (any_of HT_.out (by kernel_rfl)) (fun _ _ _ h => h) (.inl ⟨by rfl, by intro w'; go_simp; with_reducible rfl⟩) (by simp only [Act.put, sb0, sb1, sb2, i64_w, i32_w]; rfl) ?_
        refine pure_ (i := 9) (N := some 73) (bA 14 1023) rfl rfl (any_of HT_.out (by kernel_rfl)) (fun _ _ _ h => h) (.inl ⟨by rfl, by intro w'; go_simp; with_reducible rfl⟩) (by simp only [Act.put, sb0, sb1, sb2, i64_w, i32_w]; rfl) ?_
        refine pure_ (i := 10) (N := some 74) (bA 14 2047) rfl rfl (any_of HT_.out (by kernel_rfl)) (fun _ _ _ h => h) (.inl ⟨by rfl, by intro w'; go_simp; with_reducible rfl⟩) (by simp only [Act.put, sb0, sb1, sb2, i64_w, i32_w]; rfl) ?_
        refine one_ (i := 11) (N := some 18) (bA 14 4095) rfl rfl (one_of HT_.out (by kernel_rfl)) (by decide) (fun K hK => ?_)
        refine box_step ?hg (N := 18) ?hd (cs := #[.int .i64 0, .int .i64 0, .int .i64 0, .bool false]) (t := 80) ?hr ?_; (case hd => rfl); (case hg => rfl); (case hr => (go_simp; done))
        intro gb374 hg w69 hbox hb
        replace HO_11 := aM (Kd.R_below (Kd.R_elderB HO_11.out gb374 (Nat.le_of_eq hg.symm)) hb)
        replace HO_46 := aM (Kd.R_below HO_46.out hb)
        have BK374 := aM (hbox)
        have GW374 := bGE HB.out hg
        have GE374 := bGE HB.out hg
        replace HB := aB HB hb
        have NB343_374 := bLT BK343.out hg
        have NB374_343 := bGT BK343.out hg
        replace BK343 := aK BK343 hb
        have NB349_374 := bLT BK349.out hg
        have NB374_349 := bGT BK349.out hg
        replace BK349 := aK BK349 hb
        have NB358_374 := bLT BK358.out hg
        have NB374_358 := bGT BK358.out hg
        replace BK358 := aK BK358 hb
        clear hb hbox hg
        refine hK.out _ _ (andc6 BK343.out ⟨(swB HB.out hw368_0), (swB HB.out hw368_1), (swB HB.out hw368_2), (swB HB.out hw368_3)⟩) (fun hHeld => ?_)
        clear hK K
        refine norm_ (a' := ?_) ?_ ?_
        rotate_left
        ·show Act.put _ (some 18) _ = _
         simp only [Act.put, sb0, sb1, sb2, i64_w, i32_w]
         rfl
        exact norm_ (by simp only [putAll, Act.put, List.setIfInBounds_toArray, List.set_cons_zero, List.set_cons_succ]) (hCont (gb374) _ ⟨hHeld, (by exact Kd.R_mono HO_11.out (fun _ hk => ⟨hk.1.1, ⟨hk.1.2, hk.2⟩⟩)), HO_46.out, BK343.out, BK349.out, BK358.out, BK374.out, GW374.out, GE374.out, NB343_374.out, NB374_343.out, NB349_374.out, NB374_349.out, NB358_374.out, NB374_358.out, HB.out⟩)
       skip
       refine box_step ?hg (N := 18) ?hd (cs := #[.int .i64 0, .int .i64 0, .int .i64 0, .bool false]) (t := 80) ?hr ?_; (case hd => rfl); (case hg => rfl); (case hr => (go_simp; done))
       intro gb374 hg w68 hbox hb
       replace HO_11 := aM (Kd.R_below (Kd.R_elderB HO_11.out gb374 (Nat.le_of_eq hg.symm)) hb)
       replace HO_46 := aM (Kd.R_below HO_46.out hb)
       have BK374 := aM (hbox)
       have GW374 := bGE HB.out hg
       have GE374 := bGE HB.out hg
       replace HB := aB HB hb
       have NB343_374 := bLT BK343.out hg
       have NB374_343 := bGT BK343.out hg
       replace BK343 := aK BK343 hb
       have NB349_374 := bLT BK349.out hg
       have NB374_349 := bGT BK349.out hg
       replace BK349 := aK BK349 hb
       have NB358_374 := bLT BK358.out hg
       have NB374_358 := bGT BK358.out hg
       replace BK358 := aK BK358 hb
       clear hb hbox hg
       refine hK.out _ _ (andc6 BK343.out ⟨(swB HB.out hw368_0), (swB HB.out hw368_1), (swB HB.out hw368_2), (swB HB.out hw368_3)⟩) (fun hHeld => ?_)
       clear hK K
       refine norm_ (a' := ?_) ?_ ?_
       rotate_left
       ·show Act.put _ (some 18) _ = _
        simp only [Act.put, sb0, sb1, sb2, i64_w, i32_w]
        rfl
       refine one_ (i := 7) (N := some 72) (bA 14 2303) rfl rfl (one_of HT_.out (by kernel_rfl)) (by decide) (fun K hK => ?_)
       refine goes_ Try.func105 (by kernel_rfl) rfl #[.agg #[.slice A0_0 l0_0.length c0_0, .slice A0_1 l0_1.length c0_1, .slice A0_2 l0_2.length c0_2, .slice A0_3 l0_3.length c0_3, .slice A0_4 l0_4.length c0_4, .slice A0_5 l0_5.length c0_5], .int .i64 a1, .int .i64 (rd t362 x48_3), .agg #[.int .i64 ((rd_T80 l4 (rd t362 x48_3)).f0), .int .i64 ((rd_T80 l4 (rd t362 x48_3)).f1), .int .i64 ((rd_T80 l4 (rd t362 x48_3)).f2), .bool ((rd_T80 l4 (rd t362 x48_3)).f3)]] (by rfl) rfl rfl (by (try simp only [List.map_toArray, List.map_cons, List.map_nil]); rfl) ?_
       with_reducible refine (impl_imported.calls kj42 _ _ l0_0 _ _ l0_1 _ _ l0_2 _ _ l0_3 _ _ l0_4 _ _ l0_5 a1 (rd t362 x48_3) ((rd_T80 l4 (rd t362 x48_3)).f0) ((rd_T80 l4 (rd t362 x48_3)).f1) ((rd_T80 l4 (rd t362 x48_3)).f2) ((rd_T80 l4 (rd t362 x48_3)).f3) t369 t370 t371 t372 false _ ?side1 ?side2 ?side3 ?side4 ?side5 ?side6 ?side7 ?side8 ?side9 ?side10 ?side11 ?side12 A51.out).mono ?_
       (case side1 => exact (Kd.C_below HR0_0.out HB.out))
       (case side2 => exact HC0_0.out)
       (case side3 => exact (Kd.C_below HR0_1.out HB.out))
       (case side4 => exact HC0_1.out)
       (case side5 => exact (Kd.C_below HR0_2.out HB.out))
       (case side6 => exact HC0_2.out)
       (case side7 => exact (Kd.C_below HR0_3.out HB.out))
       (case side8 => exact HC0_3.out)
       (case side9 => exact (Kd.C_below HR0_4.out HB.out))
       (case side10 => exact HC0_4.out)
       (case side11 => exact (Kd.C_below HR0_5.out HB.out))
       (case side12 => exact HC0_5.out)
       rintro e w69 ⟨rfl, hb⟩
       refine ⟨_, rfl, ?_⟩
       replace HO_11 := aM (Kd.R_below HO_11.out hb)
       replace HO_46 := aM (Kd.R_below HO_46.out hb)
       replace BK343 := aK BK343 hb
       replace BK349 := aK BK349 hb
       replace BK358 := aK BK358 hb
       replace BK374 := aK BK374 hb
       replace HB := aB HB hb
       (try clear hb)
       refine hK.out _ _ (andc6 BK343.out ⟨(swB HB.out hw368_0), (swB HB.out hw368_1), (swB HB.out hw368_2), (swB HB.out hw368_3)⟩) (fun hHeld => ?_)
       clear hK K
       refine norm_ (a' := ?_) ?_ ?_
       rotate_left
       ·show Act.put _ (some 72) _ = _
        simp only [Act.put, sb0, sb1, sb2, i64_w, i32_w]
        rfl
       refine pure_ (i := 8) (N := some 64) (bA 14 2559) rfl rfl (any_of HT_.out (by kernel_rfl)) (fun _ _ _ h => h) (.inl ⟨by rfl, by intro w'; go_simp; with_reducible rfl⟩) (by simp only [Act.put, sb0, sb1, sb2, i64_w, i32_w]; rfl) ?_
       refine pure_ (i := 9) (N := some 73) (bA 14 3071) rfl rfl (any_of HT_.out (by kernel_rfl)) (fun _ _ _ h => h) (.inl ⟨by rfl, by intro w'; go_simp; with_reducible rfl⟩) (by simp only [Act.put, sb0, sb1, sb2, i64_w, i32_w]; rfl) ?_
       refine pure_ (i := 10) (N := some 74) (bA 14 4095) rfl rfl (any_of HT_.out (by kernel_rfl)) (fun _ _ _ h => h) (.inl ⟨by rfl, by intro w'; go_simp; with_reducible rfl⟩) (by simp only [Act.put, sb0, sb1, sb2, i64_w, i32_w]; rfl) ?_
       exact norm_ (by simp only [putAll, Act.put, List.setIfInBounds_toArray, List.set_cons_zero, List.set_cons_succ]) (hCont (gb374) _ ⟨hHeld, (by exact Kd.R_mono HO_11.out (fun _ hk => ⟨hk.1.1, ⟨hk.1.2, hk.2⟩⟩)), HO_46.out, BK343.out, BK349.out, BK358.out, BK374.out, GW374.out, GE374.out, NB343_374.out, NB374_343.out, NB349_374.out, NB374_349.out, NB358_374.out, NB374_358.out, HB.out⟩)
      rintro gb374 w70 ⟨hS_, h0_, h1_, h2_, h3_, h4_, h5_, h6_, h7_, h8_, h9_, h10_, h11_, h12_, h13_, h14_⟩
      have n0_ : Aside0 (Kd.R k80 80 w70 w.heap.size (fun k_ => k_ ≠ gb349 ∧ k_ ≠ gb358 ∧ k_ ≠ gb374) u11 x11_3) := ⟨h0_⟩
      have n1_ : Aside0 (Kd.R (Kd.int .i64) 3 w70 w.heap.size (fun _ => True) (.slice (some ad365) t362.length co39) t362) := ⟨h1_⟩
      have n2_ : Aside0 (w70.heap[gb343]? = some (.cells #[.slice A0_0 l0_0.length c0_0, .slice A0_1 l0_1.length c0_1, .slice A0_2 l0_2.length c0_2, .slice A0_3 l0_3.length c0_3, .slice A0_4 l0_4.length c0_4, .slice A0_5 l0_5.length c0_5] 38 (0, 0))) := ⟨h2_⟩
      have n3_ : Aside0 (w70.heap[gb349]? = some (.cells #[.int .i64 t344, .int .i64 t345, .int .i64 t346, .bool t347] 80 (0, 0))) := ⟨h3_⟩
      have n4_ : Aside0 (w70.heap[gb358]? = some (.cells #[.int .i64 t353, .int .i64 t354, .int .i64 t355, .bool t356] 80 (0, 0))) := ⟨h4_⟩
      have n5_ : Aside0 (w70.heap[gb374]? = some (.cells #[.int .i64 0, .int .i64 0, .int .i64 0, .bool false] 80 (0, 0))) := ⟨h5_⟩
      have n6_ : Aside0 (w.heap.size ≤ gb374) := ⟨h6_⟩
      have n7_ : Aside0 (w.heap.size ≤ gb374) := ⟨h7_⟩
      have n8_ : Aside0 (gb343 ≠ gb374) := ⟨h8_⟩
      have n9_ : Aside0 (gb374 ≠ gb343) := ⟨h9_⟩
      have n10_ : Aside0 (gb349 ≠ gb374) := ⟨h10_⟩
      have n11_ : Aside0 (gb374 ≠ gb349) := ⟨h11_⟩
      have n12_ : Aside0 (gb358 ≠ gb374) := ⟨h12_⟩
      have n13_ : Aside0 (gb374 ≠ gb358) := ⟨h13_⟩
      have n14_ : Aside0 (Below w.heap.size w w70) := ⟨h14_⟩
      clear HO_11 HO_46 BK343 BK349 BK358 HB h0_ h1_ h2_ h3_ h4_ h5_ h6_ h7_ h8_ h9_ h10_ h11_ h12_ h13_ h14_
      have HO_11 := n0_
      have HO_46 := n1_
      have BK343 := n2_
      have BK349 := n3_
      have BK358 := n4_
      have BK374 := n5_
      have GW374 := n6_
      have GE374 := n7_
      have NB343_374 := n8_
      have NB374_343 := n9_
      have NB349_374 := n10_
      have NB374_349 := n11_
      have NB358_374 := n12_
      have NB374_358 := n13_
      have HB := n14_
      clear n0_ n1_ n2_ n3_ n4_ n5_ n6_ n7_ n8_ n9_ n10_ n11_ n12_ n13_ n14_
      have hHeld : w70.cell? ⟨gb343, 0, none⟩ = some (.slice A0_0 l0_0.length c0_0) ∧ w70.cell? ⟨gb343, 1, none⟩ = some (.slice A0_1 l0_1.length c0_1) ∧ w70.cell? ⟨gb343, 2, none⟩ = some (.slice A0_2 l0_2.length c0_2) ∧ w70.cell? ⟨gb343, 3, none⟩ = some (.slice A0_3 l0_3.length c0_3) ∧ w70.cell? ⟨gb343, 4, none⟩ = some (.slice A0_4 l0_4.length c0_4) ∧ w70.cell? ⟨gb343, 5, none⟩ = some (.slice A0_5 l0_5.length c0_5) ∧ w70.cell? (ad368.add (((rd t362 x48_3)).toNat * 4)) = some (.int .i64 ((rd_T80 l4 (rd t362 x48_3)).f0)) ∧ w70.cell? ⟨(ad368.add (((rd t362 x48_3)).toNat * 4)).block, (ad368.add (((rd t362 x48_3)).toNat * 4)).off + 1, none⟩ = some (.int .i64 ((rd_T80 l4 (rd t362 x48_3)).f1)) ∧ w70.cell? ⟨(ad368.add (((rd t362 x48_3)).toNat * 4)).block, (ad368.add (((rd t362 x48_3)).toNat * 4)).off + 2, none⟩ = some (.int .i64 ((rd_T80 l4 (rd t362 x48_3)).f2)) ∧ w70.cell? ⟨(ad368.add (((rd t362 x48_3)).toNat * 4)).block, (ad368.add (((rd t362 x48_3)).toNat * 4)).off + 3, none⟩ = some (.bool ((rd_T80 l4 (rd t362 x48_3)).f3)) := hS_
      refine norm_ (a' := ?_) ?_ ?_
      rotate_left
      ·simp only [putAll, Act.put, List.setIfInBounds_toArray, List.set_cons_zero, List.set_cons_succ]
       rfl
      refine one_ (i := 12) (N := none) (bA 14 8191) rfl rfl (one_of HT_.out (by kernel_rfl)) (by decide) (fun K hK => ?_)
      have hs71 : w70.cell? ⟨gb374, 0, none⟩ = some (.int .i64 0) := (blk_cell BK374.out 0).trans rfl
      have hfs71 := blk_frozen BK374.out 0
      have hns71_0 := NB343_374.out
      have hns71_1 := NB349_374.out
      have hns71_2 := NB358_374.out
      have hms71_0 := NB374_343.out
      have hms71_1 := NB374_349.out
      have hms71_2 := NB374_358.out
      have hs72 : w70.cell? ⟨gb374, 1, none⟩ = some (.int .i64 0) := (blk_cell BK374.out 1).trans rfl
      have hfs72 := blk_frozen BK374.out 1
      have hns72_0 := NB343_374.out
      have hns72_1 := NB349_374.out
      have hns72_2 := NB358_374.out
      have hms72_0 := NB374_343.out
      have hms72_1 := NB374_349.out
      have hms72_2 := NB374_358.out
      have hs73 : w70.cell? ⟨gb374, 2, none⟩ = some (.int .i64 0) := (blk_cell BK374.out 2).trans rfl
      have hfs73 := blk_frozen BK374.out 2
      have hns73_0 := NB343_374.out
      have hns73_1 := NB349_374.out
      have hns73_2 := NB358_374.out
      have hms73_0 := NB374_343.out
      have hms73_1 := NB374_349.out
      have hms73_2 := NB374_358.out
      have hs74 : w70.cell? ⟨gb374, 3, none⟩ = some (.bool false) := (blk_cell BK374.out 3).trans rfl
      have hfs74 := blk_frozen BK374.out 3
      have hns74_0 := NB343_374.out
      have hns74_1 := NB349_374.out
      have hns74_2 := NB358_374.out
      have hms74_0 := NB374_343.out
      have hms74_1 := NB374_349.out
      have hms74_2 := NB374_358.out
      refine skip_ (w1 := ?_) (by rfl) rfl ?_ ?_
      rotate_left
      ·go_simp
       rfl
      refine hK.out _ _ ⟨((cell_far (p := ⟨gb374, _, none⟩) NB343_374.out _).trans (((cell_far (p := ⟨gb374, _, none⟩) NB343_374.out _).trans (((cell_far (p := ⟨gb374, _, none⟩) NB343_374.out _).trans (((cell_far (p := ⟨gb374, _, none⟩) NB343_374.out _).trans (hHeld.1)))))))), ((cell_far (p := ⟨gb374, _, none⟩) NB343_374.out _).trans (((cell_far (p := ⟨gb374, _, none⟩) NB343_374.out _).trans (((cell_far (p := ⟨gb374, _, none⟩) NB343_374.out _).trans (((cell_far (p := ⟨gb374, _, none⟩) NB343_374.out _).trans (hHeld.2.1)))))))), ((cell_far (p := ⟨gb374, _, none⟩) NB343_374.out _).trans (((cell_far (p := ⟨gb374, _, none⟩) NB343_374.out _).trans (((cell_far (p := ⟨gb374, _, none⟩) NB343_374.out _).trans (((cell_far (p := ⟨gb374, _, none⟩) NB343_374.out _).trans (hHeld.2.2.1)))))))), ((cell_far (p := ⟨gb374, _, none⟩) NB343_374.out _).trans (((cell_far (p := ⟨gb374, _, none⟩) NB343_374.out _).trans (((cell_far (p := ⟨gb374, _, none⟩) NB343_374.out _).trans (((cell_far (p := ⟨gb374, _, none⟩) NB343_374.out _).trans (hHeld.2.2.2.1)))))))), ((cell_far (p := ⟨gb374, _, none⟩) NB343_374.out _).trans (((cell_far (p := ⟨gb374, _, none⟩) NB343_374.out _).trans (((cell_far (p := ⟨gb374, _, none⟩) NB343_374.out _).trans (((cell_far (p := ⟨gb374, _, none⟩) NB343_374.out _).trans (hHeld.2.2.2.2.1)))))))), ((cell_far (p := ⟨gb374, _, none⟩) NB343_374.out _).trans (((cell_far (p := ⟨gb374, _, none⟩) NB343_374.out _).trans (((cell_far (p := ⟨gb374, _, none⟩) NB343_374.out _).trans (((cell_far (p := ⟨gb374, _, none⟩) NB343_374.out _).trans (hHeld.2.2.2.2.2.1)))))))), ((cell_far (p := ⟨gb374, _, none⟩) (by exact Nat.ne_of_lt (Nat.lt_of_lt_of_le (by have := World.block_lt_of_cell? _ _ hw368_0; exact this) GW374.out)) _).trans (((cell_far (p := ⟨gb374, _, none⟩) (by exact Nat.ne_of_lt (Nat.lt_of_lt_of_le (by have := World.block_lt_of_cell? _ _ hw368_0; exact this) GW374.out)) _).trans (((cell_far (p := ⟨gb374, _, none⟩) (by exact Nat.ne_of_lt (Nat.lt_of_lt_of_le (by have := World.block_lt_of_cell? _ _ hw368_0; exact this) GW374.out)) _).trans (((cell_far (p := ⟨gb374, _, none⟩) (by exact Nat.ne_of_lt (Nat.lt_of_lt_of_le (by have := World.block_lt_of_cell? _ _ hw368_0; exact this) GW374.out)) _).trans (hHeld.2.2.2.2.2.2.1)))))))), ((cell_far (p := ⟨gb374, _, none⟩) (by exact Nat.ne_of_lt (Nat.lt_of_lt_of_le (by have := World.block_lt_of_cell? _ _ hw368_1; exact this) GW374.out)) _).trans (((cell_far (p := ⟨gb374, _, none⟩) (by exact Nat.ne_of_lt (Nat.lt_of_lt_of_le (by have := World.block_lt_of_cell? _ _ hw368_1; exact this) GW374.out)) _).trans (((cell_far (p := ⟨gb374, _, none⟩) (by exact Nat.ne_of_lt (Nat.lt_of_lt_of_le (by have := World.block_lt_of_cell? _ _ hw368_1; exact this) GW374.out)) _).trans (((cell_far (p := ⟨gb374, _, none⟩) (by exact Nat.ne_of_lt (Nat.lt_of_lt_of_le (by have := World.block_lt_of_cell? _ _ hw368_1; exact this) GW374.out)) _).trans (hHeld.2.2.2.2.2.2.2.1)))))))), ((cell_far (p := ⟨gb374, _, none⟩) (by exact Nat.ne_of_lt (Nat.lt_of_lt_of_le (by have := World.block_lt_of_cell? _ _ hw368_2; exact this) GW374.out)) _).trans (((cell_far (p := ⟨gb374, _, none⟩) (by exact Nat.ne_of_lt (Nat.lt_of_lt_of_le (by have := World.block_lt_of_cell? _ _ hw368_2; exact this) GW374.out)) _).trans (((cell_far (p := ⟨gb374, _, none⟩) (by exact Nat.ne_of_lt (Nat.lt_of_lt_of_le (by have := World.block_lt_of_cell? _ _ hw368_2; exact this) GW374.out)) _).trans (((cell_far (p := ⟨gb374, _, none⟩) (by exact Nat.ne_of_lt (Nat.lt_of_lt_of_le (by have := World.block_lt_of_cell? _ _ hw368_2; exact this) GW374.out)) _).trans (hHeld.2.2.2.2.2.2.2.2.1)))))))), ((cell_far (p := ⟨gb374, _, none⟩) (by exact Nat.ne_of_lt (Nat.lt_of_lt_of_le (by have := World.block_lt_of_cell? _ _ hw368_3; exact this) GW374.out)) _).trans (((cell_far (p := ⟨gb374, _, none⟩) (by exact Nat.ne_of_lt (Nat.lt_of_lt_of_le (by have := World.block_lt_of_cell? _ _ hw368_3; exact this) GW374.out)) _).trans (((cell_far (p := ⟨gb374, _, none⟩) (by exact Nat.ne_of_lt (Nat.lt_of_lt_of_le (by have := World.block_lt_of_cell? _ _ hw368_3; exact this) GW374.out)) _).trans (((cell_far (p := ⟨gb374, _, none⟩) (by exact Nat.ne_of_lt (Nat.lt_of_lt_of_le (by have := World.block_lt_of_cell? _ _ hw368_3; exact this) GW374.out)) _).trans (hHeld.2.2.2.2.2.2.2.2.2))))))))⟩ (fun hHeld => ?_)
      clear hK K
      refine pure_ (i := 13) (N := some 19) (bA 14 16383) rfl rfl (any_of HT_.out (by kernel_rfl)) (fun _ _ _ h => h) (.inl ⟨by rfl, by intro w'; go_simp; with_reducible rfl⟩) (by simp only [Act.put, sb0, sb1, sb2, i64_w, i32_w]; rfl) ?_
      refine done_ (done_of HT_.out (by kernel_rfl)) ?_
      try go_wp2
      go_roundg kj42
      case measure => have := HJ6.out; have := HJ19.out; have := HK3.out; have := HJ42.out; omega
      case rel => exact ⟨(x11_3), (wrap64 (x48_3 + 1)), (by rfl), H', ⟨by have := HJ6.out; have := HJ19.out; have := HK3.out; have := HJ42.out; omega⟩, ⟨by exact Kd.R_mono (Kd.R_far (p := ⟨gb374, 3, none⟩) (Kd.R_far (p := ⟨gb374, 2, none⟩) (Kd.R_far (p := ⟨gb374, 1, none⟩) (Kd.R_far (p := ⟨gb374, 0, none⟩) (Kd.R_mono HO_11.out (fun k_ hk => (⟨hk, hk.2.2⟩ : _ ∧ k_ ≠ gb374))) (fun _ hk => hk.2) (.int .i64 t369)) (fun _ hk => hk.2) (.int .i64 t370)) (fun _ hk => hk.2) (.int .i64 t371)) (fun _ hk => hk.2) (.bool t372)) (fun _ hk => ⟨hk.1.1, hk.1.2.1⟩)⟩, ⟨by exact Kd.R_mono (Kd.R_far (p := ⟨gb374, 3, none⟩) (Kd.R_far (p := ⟨gb374, 2, none⟩) (Kd.R_far (p := ⟨gb374, 1, none⟩) (Kd.R_far (p := ⟨gb374, 0, none⟩) (Kd.R_types HO_46.out BK374.out (by decide)) (fun _ hk => hk.2) (.int .i64 t369)) (fun _ hk => hk.2) (.int .i64 t370)) (fun _ hk => hk.2) (.int .i64 t371)) (fun _ hk => hk.2) (.bool t372)) (fun _ hk => trivial)⟩, ⟨by refine blk_far ?_ NB343_374.out _; refine blk_far ?_ NB343_374.out _; refine blk_far ?_ NB343_374.out _; refine blk_far ?_ NB343_374.out _; exact BK343.out⟩, ⟨by refine blk_far ?_ NB349_374.out _; refine blk_far ?_ NB349_374.out _; refine blk_far ?_ NB349_374.out _; refine blk_far ?_ NB349_374.out _; exact BK349.out⟩, ⟨by refine blk_far ?_ NB358_374.out _; refine blk_far ?_ NB358_374.out _; refine blk_far ?_ NB358_374.out _; refine blk_far ?_ NB358_374.out _; exact BK358.out⟩, ⟨by repeat ((with_reducible first | exact HB.out | refine below_set ?_ GE374.out))⟩⟩
     subst c52
     rw [if_pos rfl] at H
     by_cases c53 : x11_3.length < 4398046511104
     rotate_left
     ·rw [if_neg c53] at H
      exact absurd H (by simp)
     rw [if_pos c53] at H
     have LMc53 := aM c53
     clear c53
     obtain ⟨y375, hy375⟩ : ∃ y_ : List (S80), y_ = (x11_3 ++ [(⟨t369, t370, t371, t372⟩ : S80)]) := ⟨_, rfl⟩
     replace H : (impl_candidates.l0 kj42 a1 l4 y375 t362 (t362.length : Int) (wrap64 (x48_3 + 1)) l0_0 l0_1 l0_2 l0_3 l0_4 l0_5) = some r := by (rw [hy375]; with_reducible exact H)
     have Ny375 := aM hy375
     clear hy375
     have H' := aM H
     clear H
     try go_wp2
     replace HO_11 := aM (Kd.R_drew HO_11.out)
     replace HO_46 := aM (Kd.R_drew HO_46.out)
     replace BK343 := aM (blk_drew BK343.out)
     replace BK349 := aM (blk_drew BK349.out)
     replace BK358 := aM (blk_drew BK358.out)
     replace HB := aM (below_drew1 HB.out)
     have p368 : 0 ≤ ((rd t362 x48_3) : Int) := oD ‹_›
     have q368 : (rd t362 x48_3) < (l4.length : Int) := oD ‹_›
     obtain ⟨ad368, e368, hx368_0, hx368_1, hx368_2, hx368_3⟩ := at_T80 HR4.out (rd t362 x48_3) p368 q368
     have hw368_3 := hx368_3
     have hw368_2 := hx368_2
     have hw368_1 := hx368_1
     have hw368_0 := hx368_0
     cases e368
     replace hx368_0 := swB HB.out hx368_0
     replace hx368_1 := swB HB.out hx368_1
     replace hx368_2 := swB HB.out hx368_2
     replace hx368_3 := swB HB.out hx368_3
     replace p368 := eq_true p368
     replace q368 := eq_true q368
     refine start_ (n := 14) (S := fun w' => w'.cell? ⟨gb343, 0, none⟩ = some (.slice A0_0 l0_0.length c0_0) ∧ w'.cell? ⟨gb343, 1, none⟩ = some (.slice A0_1 l0_1.length c0_1) ∧ w'.cell? ⟨gb343, 2, none⟩ = some (.slice A0_2 l0_2.length c0_2) ∧ w'.cell? ⟨gb343, 3, none⟩ = some (.slice A0_3 l0_3.length c0_3) ∧ w'.cell? ⟨gb343, 4, none⟩ = some (.slice A0_4 l0_4.length c0_4) ∧ w'.cell? ⟨gb343, 5, none⟩ = some (.slice A0_5 l0_5.length c0_5) ∧ w'.cell? (ad368.add (((rd t362 x48_3)).toNat * 4)) = some (.int .i64 ((rd_T80 l4 (rd t362 x48_3)).f0)) ∧ w'.cell? ⟨(ad368.add (((rd t362 x48_3)).toNat * 4)).block, (ad368.add (((rd t362 x48_3)).toNat * 4)).off + 1, none⟩ = some (.int .i64 ((rd_T80 l4 (rd t362 x48_3)).f1)) ∧ w'.cell? ⟨(ad368.add (((rd t362 x48_3)).toNat * 4)).block, (ad368.add (((rd t362 x48_3)).toNat * 4)).off + 2, none⟩ = some (.int .i64 ((rd_T80 l4 (rd t362 x48_3)).f2)) ∧ w'.cell? ⟨(ad368.add (((rd t362 x48_3)).toNat * 4)).block, (ad368.add (((rd t362 x48_3)).toNat * 4)).off + 3, none⟩ = some (.bool ((rd_T80 l4 (rd t362 x48_3)).f3))) (ds := []) (bA 14 0) (by kernel_rfl) rfl rfl (andc6 BK343.out ⟨(swB HB.out hw368_0), (swB HB.out hw368_1), (swB HB.out hw368_2), (swB HB.out hw368_3)⟩) (fun hHeld => ?_); refine with_tabW impl_candidates.tab12 impl_candidates.bits12 (fun HT_ HW_ => ?_)
     generalize wc.drew = w54 at HO_11 HO_46 BK343 BK349 BK358 HB hx368_0 hx368_1 hx368_2 hx368_3 hHeld ⊢
     refine pure_ (i := 1) (N := some 66) (bA 14 2) rfl rfl (any_of HT_.out (by kernel_rfl)) (fun _ _ _ h => h) (.inl ⟨by rfl, by intro w'; go_simp; with_reducible rfl⟩) (by simp only [Act.put, sb0, sb1, sb2, i64_w, i32_w]; rfl) ?_
     refine pure_ (i := 2) (N := some 67) (bA 14 6) rfl rfl (any_of HT_.out (by kernel_rfl)) (fun _ _ _ h => h) (.inl ⟨by rfl, by intro w'; go_simp; with_reducible rfl⟩) (by simp only [Act.put, sb0, sb1, sb2, i64_w, i32_w]; rfl) ?_
     refine pure_ (i := 3) (N := some 68) (bA 14 14) rfl rfl (any_of HT_.out (by kernel_rfl)) (fun _ _ _ h => h) (.inl ⟨by rfl, by intro w'; go_simp; with_reducible rfl⟩) (by simp only [Act.put, sb0, sb1, sb2, i64_w, i32_w]; rfl) ?_
     refine pure_ (i := 4) (N := some 69) (bA 14 30) rfl rfl (any_of HT_.out (by kernel_rfl)) (fun _ _ _ h => h) (.inl ⟨by rfl, by intro w'; go_simp; with_reducible rfl⟩) (by simp only [Act.put, sb0, sb1, sb2, i64_w, i32_w]; rfl) ?_
     refine pure_ (i := 5) (N := some 70) (bA 14 62) rfl rfl (any_of HT_.out (by kernel_rfl)) (fun _ _ _ h => h) (.inl ⟨by rfl, by intro w'; go_simp; with_reducible rfl⟩) (by simp only [Act.put, sb0, sb1, sb2, i64_w, i32_w]; rfl) ?_
     refine take_ (i := 0) (N := some 65) (bA 14 63) rfl rfl (take_ofW HT_.out HW_.out (by kernel_rfl)) (fun _ _ _ h => h) (.inl ⟨by rfl, by rintro w' ⟨s0, s1, s2, s3, s4, s5, s6, s7, s8, s9⟩; go_simp; with_reducible rfl⟩) hHeld (by simp only [Act.put, sb0, sb1, sb2, i64_w, i32_w]; rfl) ?_
     refine take_ (i := 6) (N := some 71) (bA 14 127) rfl rfl (take_ofW HT_.out HW_.out (by kernel_rfl)) (fun _ _ _ h => h) (.inl ⟨by rfl, by rintro w' ⟨s0, s1, s2, s3, s4, s5, s6, s7, s8, s9⟩; go_simp; with_reducible rfl⟩) hHeld (by simp only [Act.put, sb0, sb1, sb2, i64_w, i32_w]; rfl) ?_
     refine join_ (σ := Nat) 2 (bA 14 4095) (fun s_ => [(72, .tuple #[.agg #[.int .i64 t369, .int .i64 t370, .int .i64 t371, .bool t372], .bool true]), (18, .pointer (some ⟨s_, 0, none⟩)), (64, .tuple #[.agg #[.int .i64 t369, .int .i64 t370, .int .i64 t371, .bool t372], .bool true]), (73, .agg #[.int .i64 t369, .int .i64 t370, .int .i64 t371, .bool t372]), (74, .bool true)]) (fun s_ w' => (w'.cell? ⟨gb343, 0, none⟩ = some (.slice A0_0 l0_0.length c0_0) ∧ w'.cell? ⟨gb343, 1, none⟩ = some (.slice A0_1 l0_1.length c0_1) ∧ w'.cell? ⟨gb343, 2, none⟩ = some (.slice A0_2 l0_2.length c0_2) ∧ w'.cell? ⟨gb343, 3, none⟩ = some (.slice A0_3 l0_3.length c0_3) ∧ w'.cell? ⟨gb343, 4, none⟩ = some (.slice A0_4 l0_4.length c0_4) ∧ w'.cell? ⟨gb343, 5, none⟩ = some (.slice A0_5 l0_5.length c0_5) ∧ w'.cell? (ad368.add (((rd t362 x48_3)).toNat * 4)) = some (.int .i64 ((rd_T80 l4 (rd t362 x48_3)).f0)) ∧ w'.cell? ⟨(ad368.add (((rd t362 x48_3)).toNat * 4)).block, (ad368.add (((rd t362 x48_3)).toNat * 4)).off + 1, none⟩ = some (.int .i64 ((rd_T80 l4 (rd t362 x48_3)).f1)) ∧ w'.cell? ⟨(ad368.add (((rd t362 x48_3)).toNat * 4)).block, (ad368.add (((rd t362 x48_3)).toNat * 4)).off + 2, none⟩ = some (.int .i64 ((rd_T80 l4 (rd t362 x48_3)).f2)) ∧ w'.cell? ⟨(ad368.add (((rd t362 x48_3)).toNat * 4)).block, (ad368.add (((rd t362 x48_3)).toNat * 4)).off + 3, none⟩ = some (.bool ((rd_T80 l4 (rd t362 x48_3)).f3))) ∧ (Kd.R k80 80 w' w.heap.size (fun k_ => k_ ≠ gb349 ∧ k_ ≠ gb358 ∧ k_ ≠ s_) u11 x11_3) ∧ (Kd.R (Kd.int .i64) 3 w' w.heap.size (fun _ => True) (.slice (some ad365) t362.length co39) t362) ∧ (w'.heap[gb343]? = some (.cells #[.slice A0_0 l0_0.length c0_0, .slice A0_1 l0_1.length c0_1, .slice A0_2 l0_2.length c0_2, .slice A0_3 l0_3.length c0_3, .slice A0_4 l0_4.length c0_4, .slice A0_5 l0_5.length c0_5] 38 (0, 0))) ∧ (w'.heap[gb349]? = some (.cells #[.int .i64 t344, .int .i64 t345, .int .i64 t346, .bool t347] 80 (0, 0))) ∧ (w'.heap[gb358]? = some (.cells #[.int .i64 t353, .int .i64 t354, .int .i64 t355, .bool t356] 80 (0, 0))) ∧ (w'.heap[s_]? = some (.cells #[.int .i64 0, .int .i64 0, .int .i64 0, .bool false] 80 (0, 0))) ∧ (w.heap.size ≤ s_) ∧ (w.heap.size ≤ s_) ∧ (gb343 ≠ s_) ∧ (s_ ≠ gb343) ∧ (gb349 ≠ s_) ∧ (s_ ≠ gb349) ∧ (gb358 ≠ s_) ∧ (s_ ≠ gb358) ∧ (Below w.heap.size w w')) ?_ ?_
     rotate_left
     ·intro hCont
      refine two_ (i := 7) (j := 11) (Ni := some 72) (Nj := some 18) (bA 14 255) (bA 14 2175) rfl rfl rfl rfl (two_of HT_.out (by kernel_rfl)) (by decide) (by decide) (fun K hK => ?_) (fun K hK => ?_)
      ·skip
       refine goes_ Try.func105 (by kernel_rfl) rfl #[.agg #[.slice A0_0 l0_0.length c0_0, .slice A0_1 l0_1.length c0_1, .slice A0_2 l0_2.length c0_2, .slice A0_3 l0_3.length c0_3, .slice A0_4 l0_4.length c0_4, .slice A0_5 l0_5.length c0_5], .int .i64 a1, .int .i64 (rd t362 x48_3), .agg #[.int .i64 ((rd_T80 l4 (rd t362 x48_3)).f0), .int .i64 ((rd_T80 l4 (rd t362 x48_3)).f1), .int .i64 ((rd_T80 l4 (rd t362 x48_3)).f2), .bool ((rd_T80 l4 (rd t362 x48_3)).f3)]] (by rfl) rfl rfl (by (try simp only [List.map_toArray, List.map_cons, List.map_nil]); rfl) ?_
       with_reducible refine (impl_imported.calls kj42 _ _ l0_0 _ _ l0_1 _ _ l0_2 _ _ l0_3 _ _ l0_4 _ _ l0_5 a1 (rd t362 x48_3) ((rd_T80 l4 (rd t362 x48_3)).f0) ((rd_T80 l4 (rd t362 x48_3)).f1) ((rd_T80 l4 (rd t362 x48_3)).f2) ((rd_T80 l4 (rd t362 x48_3)).f3) t369 t370 t371 t372 true _ ?side1 ?side2 ?side3 ?side4 ?side5 ?side6 ?side7 ?side8 ?side9 ?side10 ?side11 ?side12 A51.out).mono ?_
       (case side1 => exact (Kd.C_below HR0_0.out HB.out))
       (case side2 => exact HC0_0.out)
       (case side3 => exact (Kd.C_below HR0_1.out HB.out))
       (case side4 => exact HC0_1.out)
       (case side5 => exact (Kd.C_below HR0_2.out HB.out))
       (case side6 => exact HC0_2.out)
       (case side7 => exact (Kd.C_below HR0_3.out HB.out))
       (case side8 => exact HC0_3.out)
       (case side9 => exact (Kd.C_below HR0_4.out HB.out))
       (case side10 => exact HC0_4.out)
       (case side11 => exact (Kd.C_below HR0_5.out HB.out))
       (case side12 => exact HC0_5.out)
       rintro e w55 ⟨rfl, hb⟩
       refine ⟨_, rfl, ?_⟩
       replace HO_11 := aM (Kd.R_below HO_11.out hb)
       replace HO_46 := aM (Kd.R_below HO_46.out hb)
       replace BK343 := aK BK343 hb
       replace BK349 := aK BK349 hb
       replace BK358 := aK BK358 hb
       replace HB := aB HB hb
       (try clear hb)
       refine hK.out _ _ (andc6 BK343.out ⟨(swB HB.out hw368_0), (swB HB.out hw368_1), (swB HB.out hw368_2), (swB HB.out hw368_3)⟩) (fun hHeld => ?_)
       clear hK K
       refine norm_ (a' := ?_) ?_ ?_
       rotate_left
       ·show Act.put _ (some 72) _ = _
        simp only [Act.put, sb0, sb1, sb2, i64_w, i32_w]
        rfl
       refine pure_ (i := 8) (N := some 64) (bA 14 511) rfl rfl (any_of HT_.out (by kernel_rfl)) (fun _ _ _ h => h) (.inl ⟨by rfl, by intro w'; go_simp; with_reducible rfl⟩) (by simp only [Act.put, sb0, sb1, sb2, i64_w, i32_w]; rfl) ?_
       refine pure_ (i := 9) (N := some 73) (bA 14 1023) rfl rfl (any_of HT_.out (by kernel_rfl)) (fun _ _ _ h => h) (.inl ⟨by rfl, by intro w'; go_simp; with_reducible rfl⟩) (by simp only [Act.put, sb0, sb1, sb2, i64_w, i32_w]; rfl) ?_
       refine pure_ (i := 10) (N := some 74) (bA 14 2047) rfl rfl (any_of HT_.out (by kernel_rfl)) (fun _ _ _ h => h) (.inl ⟨by rfl, by intro w'; go_simp; with_reducible rfl⟩) (by simp only [Act.put, sb0, sb1, sb2, i64_w, i32_w]; rfl) ?_
       refine one_ (i := 11) (N := some 18) (bA 14 4095) rfl rfl (one_of HT_.out (by kernel_rfl)) (by decide) (fun K hK => ?_)
       refine box_step ?hg (N := 18) ?hd (cs := #[.int .i64 0, .int .i64 0, .int .i64 0, .bool false]) (t := 80) ?hr ?_; (case hd => rfl); (case hg => rfl); (case hr => (go_simp; done))
       intro gb374 hg w56 hbox hb
       replace HO_11 := aM (Kd.R_below (Kd.R_elderB HO_11.out gb374 (Nat.le_of_eq hg.symm)) hb)
       replace HO_46 := aM (Kd.R_below HO_46.out hb)
       have BK374 := aM (hbox)
       have GW374 := bGE HB.out hg
       have GE374 := bGE HB.out hg
       replace HB := aB HB hb
       have NB343_374 := bLT BK343.out hg
       have NB374_343 := bGT BK343.out hg
       replace BK343 := aK BK343 hb
       have NB349_374 := bLT BK349.out hg
       have NB374_349 := bGT BK349.out hg
       replace BK349 := aK BK349 hb
       have NB358_374 := bLT BK358.out hg
       have NB374_358 := bGT BK358.out hg
       replace BK358 := aK BK358 hb
       clear hb hbox hg
       refine hK.out _ _ (andc6 BK343.out ⟨(swB HB.out hw368_0), (swB HB.out hw368_1), (swB HB.out hw368_2), (swB HB.out hw368_3)⟩) (fun hHeld => ?_)
       clear hK K
       refine norm_ (a' := ?_) ?_ ?_
       rotate_left
       ·show Act.put _ (some 18) _ = _
        simp only [Act.put, sb0, sb1, sb2, i64_w, i32_w]
        rfl
       exact norm_ (by simp only [putAll, Act.put, List.setIfInBounds_toArray, List.set_cons_zero, List.set_cons_succ]) (hCont (gb374) _ ⟨hHeld, (by exact Kd.R_mono HO_11.out (fun _ hk => ⟨hk.1.1, ⟨hk.1.2, hk.2⟩⟩)), HO_46.out, BK343.out, BK349.out, BK358.out, BK374.out, GW374.out, GE374.out, NB343_374.out, NB374_343.out, NB349_374.out, NB374_349.out, NB358_374.out, NB374_358.out, HB.out⟩)
      skip
      refine box_step ?hg (N := 18) ?hd (cs := #[.int .i64 0, .int .i64 0, .int .i64 0, .bool false]) (t := 80) ?hr ?_; (case hd => rfl); (case hg => rfl); (case hr => (go_simp; done))
      intro gb374 hg w55 hbox hb
      replace HO_11 := aM (Kd.R_below (Kd.R_elderB HO_11.out gb374 (Nat.le_of_eq hg.symm)) hb)
      replace HO_46 := aM (Kd.R_below HO_46.out hb)
      have BK374 := aM (hbox)
      have GW374 := bGE HB.out hg
      have GE374 := bGE HB.out hg
      replace HB := aB HB hb
      have NB343_374 := bLT BK343.out hg
      have NB374_343 := bGT BK343.out hg
      replace BK343 := aK BK343 hb
      have NB349_374 := bLT BK349.out hg
      have NB374_349 := bGT BK349.out hg
      replace BK349 := aK BK349 hb
      have NB358_374 := bLT BK358.out hg
      have NB374_358 := bGT BK358.out hg
      replace BK358 := aK BK358 hb
      clear hb hbox hg
      refine hK.out _ _ (andc6 BK343.out ⟨(swB HB.out hw368_0), (swB HB.out hw368_1), (swB HB.out hw368_2), (swB HB.out hw368_3)⟩) (fun hHeld => ?_)
      clear hK K
      refine norm_ (a' := ?_) ?_ ?_
      rotate_left
      ·show Act.put _ (some 18) _ = _
       simp only [Act.put, sb0, sb1, sb2, i64_w, i32_w]
       rfl
      refine one_ (i := 7) (N := some 72) (bA 14 2303) rfl rfl (one_of HT_.out (by kernel_rfl)) (by decide) (fun K hK => ?_)
      refine goes_ Try.func105 (by kernel_rfl) rfl #[.agg #[.slice A0_0 l0_0.length c0_0, .slice A0_1 l0_1.length c0_1, .slice A0_2 l0_2.length c0_2, .slice A0_3 l0_3.length c0_3, .slice A0_4 l0_4.length c0_4, .slice A0_5 l0_5.length c0_5], .int .i64 a1, .int .i64 (rd t362 x48_3), .agg #[.int .i64 ((rd_T80 l4 (rd t362 x48_3)).f0), .int .i64 ((rd_T80 l4 (rd t362 x48_3)).f1), .int .i64 ((rd_T80 l4 (rd t362 x48_3)).f2), .bool ((rd_T80 l4 (rd t362 x48_3)).f3)]] (by rfl) rfl rfl (by (try simp only [List.map_toArray, List.map_cons, List.map_nil]); rfl) ?_
      with_reducible refine (impl_imported.calls kj42 _ _ l0_0 _ _ l0_1 _ _ l0_2 _ _ l0_3 _ _ l0_4 _ _ l0_5 a1 (rd t362 x48_3) ((rd_T80 l4 (rd t362 x48_3)).f0) ((rd_T80 l4 (rd t362 x48_3)).f1) ((rd_T80 l4 (rd t362 x48_3)).f2) ((rd_T80 l4 (rd t362 x48_3)).f3) t369 t370 t371 t372 true _ ?side1 ?side2 ?side3 ?side4 ?side5 ?side6 ?side7 ?side8 ?side9 ?side10 ?side11 ?side12 A51.out).mono ?_
      (case side1 => exact (Kd.C_below HR0_0.out HB.out))
      (case side2 => exact HC0_0.out)
      (case side3 => exact (Kd.C_below HR0_1.out HB.out))
      (case side4 => exact HC0_1.out)
      (case side5 => exact (Kd.C_below HR0_2.out HB.out))
      (case side6 => exact HC0_2.out)
      (case side7 => exact (Kd.C_below HR0_3.out HB.out))
      (case side8 => exact HC0_3.out)
      (case side9 => exact (Kd.C_below HR0_4.out HB.out))
      (case side10 => exact HC0_4.out)
      (case side11 => exact (Kd.C_below HR0_5.out HB.out))
      (case side12 => exact HC0_5.out)
      rintro e w56 ⟨rfl, hb⟩
      refine ⟨_, rfl, ?_⟩
      replace HO_11 := aM (Kd.R_below HO_11.out hb)
      replace HO_46 := aM (Kd.R_below HO_46.out hb)
      replace BK343 := aK BK343 hb
      replace BK349 := aK BK349 hb
      replace BK358 := aK BK358 hb
      replace BK374 := aK BK374 hb
      replace HB := aB HB hb
      (try clear hb)
      refine hK.out _ _ (andc6 BK343.out ⟨(swB HB.out hw368_0), (swB HB.out hw368_1), (swB HB.out hw368_2), (swB HB.out hw368_3)⟩) (fun hHeld => ?_)
      clear hK K
      refine norm_ (a' := ?_) ?_ ?_
      rotate_left
      ·show Act.put _ (some 72) _ = _
       simp only [Act.put, sb0, sb1, sb2, i64_w, i32_w]
       rfl
      refine pure_ (i := 8) (N := some 64) (bA 14 2559) rfl rfl (any_of HT_.out (by kernel_rfl)) (fun _ _ _ h => h) (.inl ⟨by rfl, by intro w'; go_simp; with_reducible rfl⟩) (by simp only [Act.put, sb0, sb1, sb2, i64_w, i32_w]; rfl) ?_
      refine pure_ (i := 9) (N := some 73) (bA 14 3071) rfl rfl (any_of HT_.out (by kernel_rfl)) (fun _ _ _ h => h) (.inl ⟨by rfl, by intro w'; go_simp; with_reducible rfl⟩) (by simp only [Act.put, sb0, sb1, sb2, i64_w, i32_w]; rfl) ?_
      refine pure_ (i := 10) (N := some 74) (bA 14 4095) rfl rfl (any_of HT_.out (by kernel_rfl)) (fun _ _ _ h => h) (.inl ⟨by rfl, by intro w'; go_simp; with_reducible rfl⟩) (by simp only [Act.put, sb0, sb1, sb2, i64_w, i32_w]; rfl) ?_
      exact norm_ (by simp only [putAll, Act.put, List.setIfInBounds_toArray, List.set_cons_zero, List.set_cons_succ]) (hCont (gb374) _ ⟨hHeld, (by exact Kd.R_mono HO_11.out (fun _ hk => ⟨hk.1.1, ⟨hk.1.2, hk.2⟩⟩)), HO_46.out, BK343.out, BK349.out, BK358.out, BK374.out, GW374.out, GE374.out, NB343_374.out, NB374_343.out, NB349_374.out, NB374_349.out, NB358_374.out, NB374_358.out, HB.out⟩)
     rintro gb374 w57 ⟨hS_, h0_, h1_, h2_, h3_, h4_, h5_, h6_, h7_, h8_, h9_, h10_, h11_, h12_, h13_, h14_⟩
     have n0_ : Aside0 (Kd.R k80 80 w57 w.heap.size (fun k_ => k_ ≠ gb349 ∧ k_ ≠ gb358 ∧ k_ ≠ gb374) u11 x11_3) := ⟨h0_⟩
     have n1_ : Aside0 (Kd.R (Kd.int .i64) 3 w57 w.heap.size (fun _ => True) (.slice (some ad365) t362.length co39) t362) := ⟨h1_⟩
     have n2_ : Aside0 (w57.heap[gb343]? = some (.cells #[.slice A0_0 l0_0.length c0_0, .slice A0_1 l0_1.length c0_1, .slice A0_2 l0_2.length c0_2, .slice A0_3 l0_3.length c0_3, .slice A0_4 l0_4.length c0_4, .slice A0_5 l0_5.length c0_5] 38 (0, 0))) := ⟨h2_⟩
     have n3_ : Aside0 (w57.heap[gb349]? = some (.cells #[.int .i64 t344, .int .i64 t345, .int .i64 t346, .bool t347] 80 (0, 0))) := ⟨h3_⟩
     have n4_ : Aside0 (w57.heap[gb358]? = some (.cells #[.int .i64 t353, .int .i64 t354, .int .i64 t355, .bool t356] 80 (0, 0))) := ⟨h4_⟩
     have n5_ : Aside0 (w57.heap[gb374]? = some (.cells #[.int .i64 0, .int .i64 0, .int .i64 0, .bool false] 80 (0, 0))) := ⟨h5_⟩
     have n6_ : Aside0 (w.heap.size ≤ gb374) := ⟨h6_⟩
     have n7_ : Aside0 (w.heap.size ≤ gb374) := ⟨h7_⟩
     have n8_ : Aside0 (gb343 ≠ gb374) := ⟨h8_⟩
     have n9_ : Aside0 (gb374 ≠ gb343) := ⟨h9_⟩
     have n10_ : Aside0 (gb349 ≠ gb374) := ⟨h10_⟩
     have n11_ : Aside0 (gb374 ≠ gb349) := ⟨h11_⟩
     have n12_ : Aside0 (gb358 ≠ gb374) := ⟨h12_⟩
     have n13_ : Aside0 (gb374 ≠ gb358) := ⟨h13_⟩
     have n14_ : Aside0 (Below w.heap.size w w57) := ⟨h14_⟩
     clear HO_11 HO_46 BK343 BK349 BK358 HB h0_ h1_ h2_ h3_ h4_ h5_ h6_ h7_ h8_ h9_ h10_ h11_ h12_ h13_ h14_
     have HO_11 := n0_
     have HO_46 := n1_
     have BK343 := n2_
     have BK349 := n3_
     have BK358 := n4_
     have BK374 := n5_
     have GW374 := n6_
     have GE374 := n7_
     have NB343_374 := n8_
     have NB374_343 := n9_
     have NB349_374 := n10_
     have NB374_349 := n11_
     have NB358_374 := n12_
     have NB374_358 := n13_
     have HB := n14_
     clear n0_ n1_ n2_ n3_ n4_ n5_ n6_ n7_ n8_ n9_ n10_ n11_ n12_ n13_ n14_
     have hHeld : w57.cell? ⟨gb343, 0, none⟩ = some (.slice A0_0 l0_0.length c0_0) ∧ w57.cell? ⟨gb343, 1, none⟩ = some (.slice A0_1 l0_1.length c0_1) ∧ w57.cell? ⟨gb343, 2, none⟩ = some (.slice A0_2 l0_2.length c0_2) ∧ w57.cell? ⟨gb343, 3, none⟩ = some (.slice A0_3 l0_3.length c0_3) ∧ w57.cell? ⟨gb343, 4, none⟩ = some (.slice A0_4 l0_4.length c0_4) ∧ w57.cell? ⟨gb343, 5, none⟩ = some (.slice A0_5 l0_5.length c0_5) ∧ w57.cell? (ad368.add (((rd t362 x48_3)).toNat * 4)) = some (.int .i64 ((rd_T80 l4 (rd t362 x48_3)).f0)) ∧ w57.cell? ⟨(ad368.add (((rd t362 x48_3)).toNat * 4)).block, (ad368.add (((rd t362 x48_3)).toNat * 4)).off + 1, none⟩ = some (.int .i64 ((rd_T80 l4 (rd t362 x48_3)).f1)) ∧ w57.cell? ⟨(ad368.add (((rd t362 x48_3)).toNat * 4)).block, (ad368.add (((rd t362 x48_3)).toNat * 4)).off + 2, none⟩ = some (.int .i64 ((rd_T80 l4 (rd t362 x48_3)).f2)) ∧ w57.cell? ⟨(ad368.add (((rd t362 x48_3)).toNat * 4)).block, (ad368.add (((rd t362 x48_3)).toNat * 4)).off + 3, none⟩ = some (.bool ((rd_T80 l4 (rd t362 x48_3)).f3)) := hS_
     refine norm_ (a' := ?_) ?_ ?_
     rotate_left
     ·simp only [putAll, Act.put, List.setIfInBounds_toArray, List.set_cons_zero, List.set_cons_succ]
      rfl
     refine one_ (i := 12) (N := none) (bA 14 8191) rfl rfl (one_of HT_.out (by kernel_rfl)) (by decide) (fun K hK => ?_)
     have hs58 : w57.cell? ⟨gb374, 0, none⟩ = some (.int .i64 0) := (blk_cell BK374.out 0).trans rfl
     have hfs58 := blk_frozen BK374.out 0
     have hns58_0 := NB343_374.out
     have hns58_1 := NB349_374.out
     have hns58_2 := NB358_374.out
     have hms58_0 := NB374_343.out
     have hms58_1 := NB374_349.out
     have hms58_2 := NB374_358.out
     have hs59 : w57.cell? ⟨gb374, 1, none⟩ = some (.int .i64 0) := (blk_cell BK374.out 1).trans rfl
     have hfs59 := blk_frozen BK374.out 1
     have hns59_0 := NB343_374.out
     have hns59_1 := NB349_374.out
     have hns59_2 := NB358_374.out
     have hms59_0 := NB374_343.out
     have hms59_1 := NB374_349.out
     have hms59_2 := NB374_358.out
     have hs60 : w57.cell? ⟨gb374, 2, none⟩ = some (.int .i64 0) := (blk_cell BK374.out 2).trans rfl
     have hfs60 := blk_frozen BK374.out 2
     have hns60_0 := NB343_374.out
     have hns60_1 := NB349_374.out
     have hns60_2 := NB358_374.out
     have hms60_0 := NB374_343.out
     have hms60_1 := NB374_349.out
     have hms60_2 := NB374_358.out
     have hs61 : w57.cell? ⟨gb374, 3, none⟩ = some (.bool false) := (blk_cell BK374.out 3).trans rfl
     have hfs61 := blk_frozen BK374.out 3
     have hns61_0 := NB343_374.out
     have hns61_1 := NB349_374.out
     have hns61_2 := NB358_374.out
     have hms61_0 := NB374_343.out
     have hms61_1 := NB374_349.out
     have hms61_2 := NB374_358.out
     refine skip_ (w1 := ?_) (by rfl) rfl ?_ ?_
     rotate_left
     ·go_simp
      rfl
     refine hK.out _ _ ⟨((cell_far (p := ⟨gb374, _, none⟩) NB343_374.out _).trans (((cell_far (p := ⟨gb374, _, none⟩) NB343_374.out _).trans (((cell_far (p := ⟨gb374, _, none⟩) NB343_374.out _).trans (((cell_far (p := ⟨gb374, _, none⟩) NB343_374.out _).trans (hHeld.1)))))))), ((cell_far (p := ⟨gb374, _, none⟩) NB343_374.out _).trans (((cell_far (p := ⟨gb374, _, none⟩) NB343_374.out _).trans (((cell_far (p := ⟨gb374, _, none⟩) NB343_374.out _).trans (((cell_far (p := ⟨gb374, _, none⟩) NB343_374.out _).trans (hHeld.2.1)))))))), ((cell_far (p := ⟨gb374, _, none⟩) NB343_374.out _).trans (((cell_far (p := ⟨gb374, _, none⟩) NB343_374.out _).trans (((cell_far (p := ⟨gb374, _, none⟩) NB343_374.out _).trans (((cell_far (p := ⟨gb374, _, none⟩) NB343_374.out _).trans (hHeld.2.2.1)))))))), ((cell_far (p := ⟨gb374, _, none⟩) NB343_374.out _).trans (((cell_far (p := ⟨gb374, _, none⟩) NB343_374.out _).trans (((cell_far (p := ⟨gb374, _, none⟩) NB343_374.out _).trans (((cell_far (p := ⟨gb374, _, none⟩) NB343_374.out _).trans (hHeld.2.2.2.1)))))))), ((cell_far (p := ⟨gb374, _, none⟩) NB343_374.out _).trans (((cell_far (p := ⟨gb374, _, none⟩) NB343_374.out _).trans (((cell_far (p := ⟨gb374, _, none⟩) NB343_374.out _).trans (((cell_far (p := ⟨gb374, _, none⟩) NB343_374.out _).trans (hHeld.2.2.2.2.1)))))))), ((cell_far (p := ⟨gb374, _, none⟩) NB343_374.out _).trans (((cell_far (p := ⟨gb374, _, none⟩) NB343_374.out _).trans (((cell_far (p := ⟨gb374, _, none⟩) NB343_374.out _).trans (((cell_far (p := ⟨gb374, _, none⟩) NB343_374.out _).trans (hHeld.2.2.2.2.2.1)))))))), ((cell_far (p := ⟨gb374, _, none⟩) (by exact Nat.ne_of_lt (Nat.lt_of_lt_of_le (by have := World.block_lt_of_cell? _ _ hw368_0; exact this) GW374.out)) _).trans (((cell_far (p := ⟨gb374, _, none⟩) (by exact Nat.ne_of_lt (Nat.lt_of_lt_of_le (by have := World.block_lt_of_cell? _ _ hw368_0; exact this) GW374.out)) _).trans (((cell_far (p := ⟨gb374, _, none⟩) (by exact Nat.ne_of_lt (Nat.lt_of_lt_of_le (by have := World.block_lt_of_cell? _ _ hw368_0; exact this) GW374.out)) _).trans (((cell_far (p := ⟨gb374, _, none⟩) (by exact Nat.ne_of_lt (Nat.lt_of_lt_of_le (by have := World.block_lt_of_cell? _ _ hw368_0; exact this) GW374.out)) _).trans (hHeld.2.2.2.2.2.2.1)))))))), ((cell_far (p := ⟨gb374, _, none⟩) (by exact Nat.ne_of_lt (Nat.lt_of_lt_of_le (by have := World.block_lt_of_cell? _ _ hw368_1; exact this) GW374.out)) _).trans (((cell_far (p := ⟨gb374, _, none⟩) (by exact Nat.ne_of_lt (Nat.lt_of_lt_of_le (by have := World.block_lt_of_cell? _ _ hw368_1; exact this) GW374.out)) _).trans (((cell_far (p := ⟨gb374, _, none⟩) (by exact Nat.ne_of_lt (Nat.lt_of_lt_of_le (by have := World.block_lt_of_cell? _ _ hw368_1; exact this) GW374.out)) _).trans (((cell_far (p := ⟨gb374, _, none⟩) (by exact Nat.ne_of_lt (Nat.lt_of_lt_of_le (by have := World.block_lt_of_cell? _ _ hw368_1; exact this) GW374.out)) _).trans (hHeld.2.2.2.2.2.2.2.1)))))))), ((cell_far (p := ⟨gb374, _, none⟩) (by exact Nat.ne_of_lt (Nat.lt_of_lt_of_le (by have := World.block_lt_of_cell? _ _ hw368_2; exact this) GW374.out)) _).trans (((cell_far (p := ⟨gb374, _, none⟩) (by exact Nat.ne_of_lt (Nat.lt_of_lt_of_le (by have := World.block_lt_of_cell? _ _ hw368_2; exact this) GW374.out)) _).trans (((cell_far (p := ⟨gb374, _, none⟩) (by exact Nat.ne_of_lt (Nat.lt_of_lt_of_le (by have := World.block_lt_of_cell? _ _ hw368_2; exact this) GW374.out)) _).trans (((cell_far (p := ⟨gb374, _, none⟩) (by exact Nat.ne_of_lt (Nat.lt_of_lt_of_le (by have := World.block_lt_of_cell? _ _ hw368_2; exact this) GW374.out)) _).trans (hHeld.2.2.2.2.2.2.2.2.1)))))))), ((cell_far (p := ⟨gb374, _, none⟩) (by exact Nat.ne_of_lt (Nat.lt_of_lt_of_le (by have := World.block_lt_of_cell? _ _ hw368_3; exact this) GW374.out)) _).trans (((cell_far (p := ⟨gb374, _, none⟩) (by exact Nat.ne_of_lt (Nat.lt_of_lt_of_le (by have := World.block_lt_of_cell? _ _ hw368_3; exact this) GW374.out)) _).trans (((cell_far (p := ⟨gb374, _, none⟩) (by exact Nat.ne_of_lt (Nat.lt_of_lt_of_le (by have := World.block_lt_of_cell? _ _ hw368_3; exact this) GW374.out)) _).trans (((cell_far (p := ⟨gb374, _, none⟩) (by exact Nat.ne_of_lt (Nat.lt_of_lt_of_le (by have := World.block_lt_of_cell? _ _ hw368_3; exact this) GW374.out)) _).trans (hHeld.2.2.2.2.2.2.2.2.2))))))))⟩ (fun hHeld => ?_)
     clear hK K
     refine pure_ (i := 13) (N := some 19) (bA 14 16383) rfl rfl (any_of HT_.out (by kernel_rfl)) (fun _ _ _ h => h) (.inl ⟨by rfl, by intro w'; go_simp; with_reducible rfl⟩) (by simp only [Act.put, sb0, sb1, sb2, i64_w, i32_w]; rfl) ?_
     refine done_ (done_of HT_.out (by kernel_rfl)) ?_
     have hnb62 := NB374_343.out
     have hnc62 := NB343_374.out
     have hnb63 := NB374_349.out
     have hnc63 := NB349_374.out
     have hnb64 := NB374_358.out
     have hnc64 := NB358_374.out
     obtain ⟨hcz65_0, hcz65_1, hcz65_2, hcz65_3⟩ := swc4 BK374.out
     obtain ⟨hfz65_0, hfz65_1, hfz65_2, hfz65_3⟩ := swf4 BK374.out
     try go_wp2_with (((with_reducible refine gate_builtin (b := .append) (xs := #[.tmp 76, .tmp 78]) rfl ?_); at_builtin; refine Kd.R_append k80 (w0 := w) w.heap.size rfl (.tmp 76) (.tmp 78) 31 80 (.agg #[(.int .i64 0), (.int .i64 0), (.int .i64 0), (.bool false)]) 32 rfl Try.underlying31 info80 rfl (by decide) (by omega) u11 x11_3 (⟨t369, t370, t371, t372⟩ : S80) [.int .i64 t369, .int .i64 t370, .int .i64 t371, .bool t372] (fun k_ => k_ ≠ gb349 ∧ k_ ≠ gb358 ∧ k_ ≠ gb374) (fun _ => False) rfl (by (go_simp; done)) ?aP (fun _ hk => hk.elim) ?aF ?aO ?aB ?aS ?aL ?_; (case aP => exact k80_mkM _ _ _ (⟨t369, t370, t371, t372⟩ : S80)); (case aB => exact (by repeat ((with_reducible first | exact HB.out | refine below_set ?_ GE374.out)))); (case aF => exact (fun k_ hk => ⟨Kd.freshB (g := gb349) (o := .cells #[.int .i64 t344, .int .i64 t345, .int .i64 t346, .bool t347] 80 (0, 0)) (by refine blk_far ?_ NB349_374.out _; refine blk_far ?_ NB349_374.out _; refine blk_far ?_ NB349_374.out _; refine blk_far ?_ NB349_374.out _; exact BK349.out) k_ hk, Kd.freshB (g := gb358) (o := .cells #[.int .i64 t353, .int .i64 t354, .int .i64 t355, .bool t356] 80 (0, 0)) (by refine blk_far ?_ NB358_374.out _; refine blk_far ?_ NB358_374.out _; refine blk_far ?_ NB358_374.out _; refine blk_far ?_ NB358_374.out _; exact BK358.out) k_ hk, Kd.freshB (g := gb374) (o := .cells #[.int .i64 t369, .int .i64 t370, .int .i64 t371, .bool t372] 80 (0, 0)) (by refine blk_put (cs := #[.int .i64 t369, .int .i64 t370, .int .i64 t371, .bool false]) ?_ 3 _ rfl; refine blk_put (cs := #[.int .i64 t369, .int .i64 t370, .int .i64 0, .bool false]) ?_ 2 _ rfl; refine blk_put (cs := #[.int .i64 t369, .int .i64 0, .int .i64 0, .bool false]) ?_ 1 _ rfl; refine blk_put (cs := #[.int .i64 0, .int .i64 0, .int .i64 0, .bool false]) ?_ 0 _ rfl; exact BK374.out) k_ hk⟩)); (case aO => exact (by exact Kd.R_mono (Kd.R_far (p := ⟨gb374, 3, none⟩) (Kd.R_far (p := ⟨gb374, 2, none⟩) (Kd.R_far (p := ⟨gb374, 1, none⟩) (Kd.R_far (p := ⟨gb374, 0, none⟩) (Kd.R_mono HO_11.out (fun k_ hk => (⟨hk, hk.2.2⟩ : _ ∧ k_ ≠ gb374))) (fun _ hk => hk.2) (.int .i64 t369)) (fun _ hk => hk.2) (.int .i64 t370)) (fun _ hk => hk.2) (.int .i64 t371)) (fun _ hk => hk.2) (.bool t372)) (fun _ hk => ⟨hk.1.1, ⟨hk.1.2.1, hk.1.2.2⟩⟩))); (case aS => exact (below_size (by repeat ((with_reducible first | exact HB.out | refine below_set ?_ GE374.out))))); (case aL => have := LMc53.out; omega); intro v376 w66 ho hb hg hat; rw [← Ny375.out] at ho; replace HO_46 := aM (Kd.R_over' (by exact (Kd.R_mono (Kd.R_far (p := ⟨gb374, 3, none⟩) (Kd.R_far (p := ⟨gb374, 2, none⟩) (Kd.R_far (p := ⟨gb374, 1, none⟩) (Kd.R_far (p := ⟨gb374, 0, none⟩) (Kd.R_types HO_46.out BK374.out (by decide)) (fun _ hk => hk.2) (.int .i64 t369)) (fun _ hk => hk.2) (.int .i64 t370)) (fun _ hk => hk.2) (.int .i64 t371)) (fun _ hk => hk.2) (.bool t372)) (fun _ h_ => h_.1))) (Kd.R_typed (by exact (Kd.R_mono (Kd.R_far (p := ⟨gb374, 3, none⟩) (Kd.R_far (p := ⟨gb374, 2, none⟩) (Kd.R_far (p := ⟨gb374, 1, none⟩) (Kd.R_far (p := ⟨gb374, 0, none⟩) (Kd.R_mono HO_11.out (fun k_ hk => (⟨hk, hk.2.2⟩ : _ ∧ k_ ≠ gb374))) (fun _ hk => hk.2) (.int .i64 t369)) (fun _ hk => hk.2) (.int .i64 t370)) (fun _ hk => hk.2) (.int .i64 t371)) (fun _ hk => hk.2) (.bool t372)) (fun _ h_ => h_.1)))) (by decide) hg); replace BK343 := aM (blk_grown (g := gb343) (o := .cells #[.slice A0_0 l0_0.length c0_0, .slice A0_1 l0_1.length c0_1, .slice A0_2 l0_2.length c0_2, .slice A0_3 l0_3.length c0_3, .slice A0_4 l0_4.length c0_4, .slice A0_5 l0_5.length c0_5] 38 (0, 0)) (by refine blk_far ?_ NB343_374.out _; refine blk_far ?_ NB343_374.out _; refine blk_far ?_ NB343_374.out _; refine blk_far ?_ NB343_374.out _; exact BK343.out) hg (Kd.R_ne HO_11.out BK343.out (by decide))); replace BK349 := aM (blk_grown (g := gb349) (o := .cells #[.int .i64 t344, .int .i64 t345, .int .i64 t346, .bool t347] 80 (0, 0)) (by refine blk_far ?_ NB349_374.out _; refine blk_far ?_ NB349_374.out _; refine blk_far ?_ NB349_374.out _; refine blk_far ?_ NB349_374.out _; exact BK349.out) hg (Kd.R_away HO_11.out (fun _ hk => hk.1))); replace BK358 := aM (blk_grown (g := gb358) (o := .cells #[.int .i64 t353, .int .i64 t354, .int .i64 t355, .bool t356] 80 (0, 0)) (by refine blk_far ?_ NB358_374.out _; refine blk_far ?_ NB358_374.out _; refine blk_far ?_ NB358_374.out _; refine blk_far ?_ NB358_374.out _; exact BK358.out) hg (Kd.R_away HO_11.out (fun _ hk => hk.2.1))); replace BK374 := aM (blk_grown (g := gb374) (o := .cells #[.int .i64 t369, .int .i64 t370, .int .i64 t371, .bool t372] 80 (0, 0)) (by refine blk_put (cs := #[.int .i64 t369, .int .i64 t370, .int .i64 t371, .bool false]) ?_ 3 _ rfl; refine blk_put (cs := #[.int .i64 t369, .int .i64 t370, .int .i64 0, .bool false]) ?_ 2 _ rfl; refine blk_put (cs := #[.int .i64 t369, .int .i64 0, .int .i64 0, .bool false]) ?_ 1 _ rfl; refine blk_put (cs := #[.int .i64 0, .int .i64 0, .int .i64 0, .bool false]) ?_ 0 _ rfl; exact BK374.out) hg (Kd.R_away HO_11.out (fun _ hk => hk.2.2))); replace HB := aM (hb); have HO377 := aM (ho); clear HO_11; clear ho hb hg hat))
     go_roundg kj42
     case measure => have := HJ6.out; have := HJ19.out; have := HK3.out; have := HJ42.out; omega
     case rel => exact ⟨(y375), (wrap64 (x48_3 + 1)), (by rfl), H', ⟨by have := HJ6.out; have := HJ19.out; have := HK3.out; have := HJ42.out; omega⟩, ⟨by exact Kd.R_mono HO377.out (fun _ hk => ⟨hk.1, hk.2.1⟩)⟩, ⟨by exact HO_46.out⟩, ⟨by exact BK343.out⟩, ⟨by exact BK349.out⟩, ⟨by exact BK358.out⟩, ⟨by repeat ((with_reducible exact HB.out))⟩⟩
end Go.Proofs.Ytgibacfgjmdjdaa.PFnExactIsStable
end
section
namespace Go.Proofs.Ytgibacfgjmdjdaa.PFnExactIsStable
open Go.RowKit Go.Proofs.YtgibacfgjmdjdaaW.PrintWords Go.Proofs.YtgibacfgjmdjdaaW.PrintLast Go.Proofs.YtgibacfgjmdjdaaW.PrintMore
attribute [local go_sem] max2_int min2_int max_two min_two max_three min_three max_four min_four   -- for this text's walks alone
set_option linter.unusedVariables false
set_option maxHeartbeats 8000000
set_option maxRecDepth 100000
set_option linter.unusedSimpArgs false
end Go.Proofs.Ytgibacfgjmdjdaa.PFnExactIsStable
end
section
namespace Go.Proofs.Ytgibacfgjmdjdaa.PFnExactIsStable
open Go.RowKit Go.Proofs.YtgibacfgjmdjdaaW.PrintWords Go.Proofs.YtgibacfgjmdjdaaW.PrintLast Go.Proofs.YtgibacfgjmdjdaaW.PrintMore
attribute [local go_sem] max2_int min2_int max_two min_two max_three min_three max_four min_four   -- for this text's walks alone
set_option linter.unusedVariables false
set_option maxHeartbeats 8000000
set_option maxRecDepth 100000
set_option linter.unusedSimpArgs false
section
variable {P : World → Prop} {V V2 : World} {ok S : Nat → Prop}
theorem foot_below (h : Foot P V ok) (hb : Below V.heap.size V V2) : Foot P V2 ok := h.step (fun k _ hlt => hb.block k hlt)
theorem foot_kept (h : Foot P V ok) (hk : Kept V V2 S) (hne : ∀ k, ok k → ¬ S k) : Foot P V2 ok := h.step (fun k hk' hlt => hk.2 k hlt (hne k hk'))
theorem foot_R {α : Type} {d : Kd α} {e base : Nat} {v : Value} {xs : List α} (h : d.R e V base ok v xs) : Foot (fun V => d.R e V base ok v xs) V ok := fun W' hW => Kd.R_step h hW
theorem foot_blk {g : Nat} {o : Obj} (h : V.heap[g]? = some o) (hok : ok g) : Foot (fun V => V.heap[g]? = some o) V ok := fun W' hW => (hW g hok (blk_lt h)).trans h
theorem foot_and {Q : World → Prop} (h : Foot P V ok) (k : Foot Q V ok) : Foot (fun V => P V ∧ Q V) V ok := fun W' hW => ⟨h W' hW, k W' hW⟩
theorem drawn_below (h : Drawn0 V V2) : Below V.heap.size V V2 := by
 obtain ⟨n, rfl⟩ := h.out
 exact pw_below_drewN (Below.refl _ _) n
theorem foot_C {α : Type} {d : Kd α} {A : Option Addr} {n : Nat} {xs : List α} (hd : Kd.Heap d) (h : d.C V A n xs) : Foot (fun V => d.C V A n xs) V (fun k => k < V.heap.size) := Kd.C_F hd h
end
theorem heap107 : Kd.Heap k107 := Kd.heap_iso _ (Kd.heap_pair (Kd.heap_int .i64) (Kd.heap_pair (Kd.heap_int .i64) (Kd.heap_int .i64)))
theorem heap109 : Kd.Heap k109 := Kd.heap_iso _ (Kd.heap_pair (Kd.heap_int .i64) (Kd.heap_pair (Kd.heap_int .i64) (Kd.heap_pair (Kd.heap_int .i64) (Kd.heap_pair (Kd.heap_int .i64) (Kd.heap_int .i64)))))
theorem heap111 : Kd.Heap k111 := Kd.heap_iso _ (Kd.heap_pair (Kd.heap_int .i64) (Kd.heap_pair (Kd.heap_int .i64) (Kd.heap_pair (Kd.heap_int .i64) (Kd.heap_int .i64))))
theorem heap103 : Kd.Heap k103 := Kd.heap_iso _ (Kd.heap_pair (Kd.heap_int .i64) (Kd.heap_pair (Kd.heap_int .i64) (Kd.heap_pair (Kd.heap_int .i64) Kd.heap_bool)))
def NP (lo : Nat) (ok : Nat → Prop) (A0 : Option Addr) (c0 : Nat) (A1 : Option Addr) (c1 : Nat) (A2 : Option Addr) (c2 : Nat) (A3 : Option Addr) (c3 : Nat) (A4 : Option Addr) (c4 : Nat) (A5 : Option Addr) (c5 : Nat) (q0 : List ByteArray) (q1 : List S92) (q2 : List Int) (q3 : List Int) (q4 : List S95) (q5 : List S97) (V : World) : Prop := Kd.R Kd.string 9 V lo ok (.slice A0 q0.length c0) q0 ∧ Kd.R k92 92 V lo ok (.slice A1 q1.length c1) q1 ∧ Kd.R (Kd.int .i64) 3 V lo ok (.slice A2 q2.length c2) q2 ∧ Kd.R (Kd.int .i64) 3 V lo ok (.slice A3 q3.length c3) q3 ∧ Kd.R k95 95 V lo ok (.slice A4 q4.length c4) q4 ∧ Kd.R k97 97 V lo ok (.slice A5 q5.length c5) q5
def NO (A0 : Option Addr) (c0 : Nat) (A1 : Option Addr) (c1 : Nat) (A2 : Option Addr) (c2 : Nat) (A3 : Option Addr) (c3 : Nat) (A4 : Option Addr) (c4 : Nat) (A5 : Option Addr) (c5 : Nat) (q0 : List ByteArray) (q1 : List S92) (q2 : List Int) (q3 : List Int) (q4 : List S95) (q5 : List S97) : Nat → Prop := fun k => some k = (.slice A0 q0.length c0 : Value).ownBlock ∨ some k = (.slice A1 q1.length c1 : Value).ownBlock ∨ some k = (.slice A2 q2.length c2 : Value).ownBlock ∨ some k = (.slice A3 q3.length c3 : Value).ownBlock ∨ some k = (.slice A4 q4.length c4 : Value).ownBlock ∨ some k = (.slice A5 q5.length c5 : Value).ownBlock
section
variable {V W : World} {lo : Nat} {ok ok' : Nat → Prop} {A0 : Option Addr} {c0 : Nat} {A1 : Option Addr} {c1 : Nat} {A2 : Option Addr} {c2 : Nat} {A3 : Option Addr} {c3 : Nat} {A4 : Option Addr} {c4 : Nat} {A5 : Option Addr} {c5 : Nat} {q0 : List ByteArray} {q1 : List S92} {q2 : List Int} {q3 : List Int} {q4 : List S95} {q5 : List S97} {kf : Nat}
theorem NP.foot (h : NP lo ok A0 c0 A1 c1 A2 c2 A3 c3 A4 c4 A5 c5 q0 q1 q2 q3 q4 q5 V) : Foot (NP lo ok A0 c0 A1 c1 A2 c2 A3 c3 A4 c4 A5 c5 q0 q1 q2 q3 q4 q5) V ok := fun W' hW => ⟨Kd.R_step h.1 hW, Kd.R_step h.2.1 hW, Kd.R_step h.2.2.1 hW, Kd.R_step h.2.2.2.1 hW, Kd.R_step h.2.2.2.2.1 hW, Kd.R_step h.2.2.2.2.2 hW⟩
theorem NP.own (h : NP lo ok A0 c0 A1 c1 A2 c2 A3 c3 A4 c4 A5 c5 q0 q1 q2 q3 q4 q5 V) : ∀ k, NO A0 c0 A1 c1 A2 c2 A3 c3 A4 c4 A5 c5 q0 q1 q2 q3 q4 q5 k → ok k := fun k hk => by
 unfold NO at hk
 rcases hk with hk | hk | hk | hk | hk | hk
 ·exact h.1.1 k hk.symm
 ·exact h.2.1.1 k hk.symm
 ·exact h.2.2.1.1 k hk.symm
 ·exact h.2.2.2.1.1 k hk.symm
 ·exact h.2.2.2.2.1.1 k hk.symm
 ·exact h.2.2.2.2.2.1 k hk.symm
set_option maxHeartbeats 1000000 in
theorem toNet_any {w : World} (b0 : Nat) (hb0 : b0 ≤ w.heap.size) (a0 : Option Addr) (d0 : Nat) (l0 : List ByteArray) (a1 : Option Addr) (d1 : Nat) (l1 : List S107) (a2 : Option Addr) (d2 : Nat) (l2 : List Int) (a3 : Option Addr) (d3 : Nat) (l3 : List Int) (a4 : Option Addr) (d4 : Nat) (l4 : List S109) (a5 : Option Addr) (d5 : Nat) (l5 : List S111) (q0 : List ByteArray) (q1 : List S92) (q2 : List Int) (q3 : List Int) (q4 : List S95) (q5 : List S97) (hr0 : Kd.C Kd.string w a0 l0.length l0) (hc0 : l0.length ≤ d0) (hr1 : Kd.C k107 w a1 l1.length l1) (hc1 : l1.length ≤ d1) (hr2 : Kd.C (Kd.int .i64) w a2 l2.length l2) (hc2 : l2.length ≤ d2) (hr3 : Kd.C (Kd.int .i64) w a3 l3.length l3) (hc3 : l3.length ≤ d3) (hr4 : Kd.C k109 w a4 l4.length l4) (hc4 : l4.length ≤ d4) (hr5 : Kd.C k111 w a5 l5.length l5) (hc5 : l5.length ≤ d5) (h : laws_toNet.f kf l0 l1 l2 l3 l4 l5 = some (q0, q1, q2, q3, q4, q5)) :
  Calls Try.prog 10 #[.agg #[.slice a0 l0.length d0, .slice a1 l1.length d1, .slice a2 l2.length d2, .slice a3 l3.length d3, .slice a4 l4.length d4, .slice a5 l5.length d5]] w fun e w' => ∃ (A0 : Option Addr) (c0 : Nat) (A1 : Option Addr) (c1 : Nat) (A2 : Option Addr) (c2 : Nat) (A3 : Option Addr) (c3 : Nat) (A4 : Option Addr) (c4 : Nat) (A5 : Option Addr) (c5 : Nat), e = .returned (.agg #[.slice A0 q0.length c0, .slice A1 q1.length c1, .slice A2 q2.length c2, .slice A3 q3.length c3, .slice A4 q4.length c4, .slice A5 q5.length c5]) ∧ NP b0 (fun k => w.heap.size ≤ k ∧ k < w'.heap.size) A0 c0 A1 c1 A2 c2 A3 c3 A4 c4 A5 c5 q0 q1 q2 q3 q4 q5 w' ∧ (∀ k, some k = (.slice A2 q2.length c2 : Value).ownBlock → ¬ some k = (.slice A3 q3.length c3 : Value).ownBlock) ∧ Below w.heap.size w w' := by
 refine (laws_toNet.calls kf a0 d0 l0 a1 d1 l1 a2 d2 l2 a3 d3 l3 a4 d4 l4 a5 d5 l5 q0 q1 q2 q3 q4 q5 w hr0 hc0 hr1 hc1 hr2 hc2 hr3 hc3 hr4 hc4 hr5 hc5 h).mono ?_
 rintro e w' ⟨v0, v1, v2, v3, v4, v5, rfl, h0, h1, h2, h3, h4, h5, hb⟩
 obtain ⟨A0, c0, e0⟩ := Kd.R_slice h0
 subst e0
 obtain ⟨A1, c1, e1⟩ := Kd.R_slice h1
 subst e1
 obtain ⟨A2, c2, e2⟩ := Kd.R_slice h2
 subst e2
 obtain ⟨A3, c3, e3⟩ := Kd.R_slice h3
 subst e3
 obtain ⟨A4, c4, e4⟩ := Kd.R_slice h4
 subst e4
 obtain ⟨A5, c5, e5⟩ := Kd.R_slice h5
 subst e5
 refine ⟨A0, c0, A1, c1, A2, c2, A3, c3, A4, c4, A5, c5, rfl, ⟨Kd.R_mono (Kd.R_lower (Kd.R_bound h0) hb0) (fun k hk => ⟨hk.2.1, hk.2.2.1⟩), Kd.R_mono (Kd.R_lower (Kd.R_bound h1) hb0) (fun k hk => ⟨hk.2.1, hk.2.2.1⟩), Kd.R_mono (Kd.R_lower (Kd.R_bound h2) hb0) (fun k hk => ⟨hk.2.1, hk.2.2.1⟩), Kd.R_mono (Kd.R_lower (Kd.R_bound h3) hb0) (fun k hk => ⟨hk.2.1, hk.2.2.1⟩), Kd.R_mono (Kd.R_lower (Kd.R_bound h4) hb0) (fun k hk => ⟨hk.2.1, hk.2.2.1⟩), Kd.R_mono (Kd.R_lower (Kd.R_bound h5) hb0) (fun k hk => ⟨hk.2.1, hk.2.2.1⟩)⟩, (fun k e => h2.1 k e.symm), hb⟩
theorem eqNet_any {lo2 : Nat} {ok2 : Nat → Prop} {B0 : Option Addr} {e0 : Nat} {B1 : Option Addr} {e1 : Nat} {B2 : Option Addr} {e2 : Nat} {B3 : Option Addr} {e3 : Nat} {B4 : Option Addr} {e4 : Nat} {B5 : Option Addr} {e5 : Nat} {p0 : List ByteArray} {p1 : List S92} {p2 : List Int} {p3 : List Int} {p4 : List S95} {p5 : List S97} {r : Bool} (h1 : NP lo ok A0 c0 A1 c1 A2 c2 A3 c3 A4 c4 A5 c5 q0 q1 q2 q3 q4 q5 V) (h2 : NP lo2 ok2 B0 e0 B1 e1 B2 e2 B3 e3 B4 e4 B5 e5 p0 p1 p2 p3 p4 p5 V) (h : laws_eqNet.f kf q0 q1 q2 q3 q4 q5 p0 p1 p2 p3 p4 p5 = some r) :
  Calls Try.prog 15 #[.agg #[.slice A0 q0.length c0, .slice A1 q1.length c1, .slice A2 q2.length c2, .slice A3 q3.length c3, .slice A4 q4.length c4, .slice A5 q5.length c5], .agg #[.slice B0 p0.length e0, .slice B1 p1.length e1, .slice B2 p2.length e2, .slice B3 p3.length e3, .slice B4 p4.length e4, .slice B5 p5.length e5]] V fun e w' => e = .returned (.bool r) ∧ Below V.heap.size V w' :=
 laws_eqNet.calls kf A0 c0 q0 A1 c1 q1 A2 c2 q2 A3 c3 q3 A4 c4 q4 A5 c5 q5 B0 e0 p0 B1 e1 p1 B2 e2 p2 B3 e3 p3 B4 e4 p4 B5 e5 p5 r V (Kd.R_reads' h1.1).2.2 (Kd.R_reads' h1.1).2.1 (Kd.R_reads' h1.2.1).2.2 (Kd.R_reads' h1.2.1).2.1 (Kd.R_reads' h1.2.2.1).2.2 (Kd.R_reads' h1.2.2.1).2.1 (Kd.R_reads' h1.2.2.2.1).2.2 (Kd.R_reads' h1.2.2.2.1).2.1 (Kd.R_reads' h1.2.2.2.2.1).2.2 (Kd.R_reads' h1.2.2.2.2.1).2.1 (Kd.R_reads' h1.2.2.2.2.2).2.2 (Kd.R_reads' h1.2.2.2.2.2).2.1 (Kd.R_reads' h2.1).2.2 (Kd.R_reads' h2.1).2.1 (Kd.R_reads' h2.2.1).2.2 (Kd.R_reads' h2.2.1).2.1 (Kd.R_reads' h2.2.2.1).2.2 (Kd.R_reads' h2.2.2.1).2.1 (Kd.R_reads' h2.2.2.2.1).2.2 (Kd.R_reads' h2.2.2.2.1).2.1 (Kd.R_reads' h2.2.2.2.2.1).2.2 (Kd.R_reads' h2.2.2.2.2.1).2.1 (Kd.R_reads' h2.2.2.2.2.2).2.2 (Kd.R_reads' h2.2.2.2.2.2).2.1 h
end
end Go.Proofs.Ytgibacfgjmdjdaa.PFnExactIsStable
end
section
namespace Go.Proofs.Ytgibacfgjmdjdaa.PFnExactIsStable
open Go.RowKit Go.Proofs.YtgibacfgjmdjdaaW.PrintWords Go.Proofs.YtgibacfgjmdjdaaW.PrintLast Go.Proofs.YtgibacfgjmdjdaaW.PrintMore
attribute [local go_sem] max2_int min2_int max_two min_two max_three min_three max_four min_four   -- for this text's walks alone
set_option linter.unusedVariables false
set_option maxHeartbeats 8000000
set_option maxRecDepth 100000
set_option linter.unusedSimpArgs false
def laws_markIntS.l0 : Nat → List Int → Int → Int → Option (Int × List Int)
 | 0, _, _, _ => none
 | k + 1, x0, x1, x5 => if x5 < (x0.length : Int) then (if 0 ≤ x5 then (laws_markIntS.l0 k (x0.set (x5 : Int).toNat x1) (wrap64 (x1 + 1)) (wrap64 (x5 + 1))) else (none)) else (some (x1, x0))
def laws_markIntS.f (k : Nat) (l0 : List Int) (a1 : Int) : Option (Int × List Int) := laws_markIntS.l0 k l0 a1 0
theorem laws_markIntS.calls (k : Nat) (P0_ : Nat → Prop) (u9000_ : Value) (l0 : List Int) (a1 : Int) (r1 : Int) (r2 : List Int) (w0 w : World) (hB : Below w0.heap.size w0 w) (ho0 : Kd.R (Kd.int .i64) 3 w w0.heap.size P0_ u9000_ l0) (h : laws_markIntS.f k l0 a1 = some (r1, r2)) :
  Calls Try.prog 19 #[u9000_, .int .i64 a1] w fun e w' => e = .returned (.int .i64 r1) ∧ Kd.R (Kd.int .i64) 3 w' w0.heap.size (fun k_ => (P0_ k_ ∨ w.heap.size ≤ k_)) u9000_ r2 ∧ Below w0.heap.size w0 w' ∧ Kept w w' (fun k_ => P0_ k_) := by
 have HO0 := aM (show Kd.R (Kd.int .i64) 3 w w0.heap.size (fun k_ => (P0_ k_ ∨ w.heap.size ≤ k_)) u9000_ l0 from Kd.R_mono ho0 (fun k_ hk => (.inl hk)))
 have HK := aM (Kept.refl w (fun k_ => P0_ k_))
 have HW0 := aM hB.size
 have HB := aM hB
 clear hB
 have H : (laws_markIntS.l0 k l0 a1 0) = some (r1, r2) := h
 clear h
 have H' := aM H
 clear H
 go_enter Try.func19, Try.ntmps19
 go_wp2
 go_loopg [1, 5] k (fun kq v1 v5 w' => ∃ (x0_1 : List Int) (x1_1 : Int) (x5_1 : Int), v1 = .int .i64 x1_1 ∧ v5 = .int .i64 x5_1 ∧ Aside0 (laws_markIntS.l0 kq x0_1 x1_1 x5_1 = some (r1, r2)) ∧ Aside0 (kq ≤ k) ∧ Aside0 (Kd.R (Kd.int .i64) 3 w' w0.heap.size (fun k_ => (P0_ k_ ∨ w.heap.size ≤ k_)) u9000_ x0_1) ∧ Aside0 (Kept w w' (fun k_ => P0_ k_)) ∧ Aside0 (Below w0.heap.size w0 w'))
 case atStart => exact ⟨(l0), (a1), (0), (by rfl), (by rfl), H', ⟨Nat.le_refl _⟩, ⟨by exact HO0.out⟩, ⟨by repeat ((with_reducible exact HK.out))⟩, ⟨by repeat ((with_reducible exact HB.out))⟩⟩
 clear H'
 obtain ⟨x0_1, x1_1, x5_1, rfl, rfl, HA, HK1, HO_0, HK, HB⟩ := hrel
 cases gk with
 | zero => exact absurd HA.out (by simp [laws_markIntS.l0])
 | succ k1 =>
  have H := HA.out
  clear HA
  simp only [laws_markIntS.l0] at H
  by_cases c3 : x5_1 < (x0_1.length : Int)
  rotate_left
  ·rw [if_neg c3] at H
   have c3b0 : decide (x5_1 < (x0_1.length : Int)) = false := decide_eq_false c3
   clear c3
   simp only [Option.some.injEq, Prod.mk.injEq] at H
   obtain ⟨rfl, rfl⟩ := H
   obtain ⟨Ao9, co9, eo9⟩ := Kd.R_slice HO_0.out
   subst eo9
   go_wp2
   go_ret
   exact ⟨by rfl, by exact HO_0.out, by repeat ((with_reducible exact HB.out)), by repeat ((with_reducible exact HK.out))⟩
  rw [if_pos c3] at H
  have c3b0 : decide (x5_1 < (x0_1.length : Int)) = true := decide_eq_true c3
  clear c3
  by_cases c4 : 0 ≤ x5_1
  rotate_left
  ·rw [if_neg c4] at H
   exact absurd H (by simp)
  rw [if_pos c4] at H
  have c4b0 : decide (0 ≤ x5_1) = true := decide_eq_true c4
  clear c4
  obtain ⟨y207, hy207⟩ : ∃ y_ : List Int, y_ = (x0_1.set (x5_1 : Int).toNat x1_1) := ⟨_, rfl⟩
  replace H : (laws_markIntS.l0 k1 y207 (wrap64 (x1_1 + 1)) (wrap64 (x5_1 + 1))) = some (r1, r2) := by (rw [hy207]; with_reducible exact H)
  have Ny207 := aM hy207
  clear hy207
  have H' := aM H
  clear H
  obtain ⟨Ao6, co6, eo6⟩ := Kd.R_slice HO_0.out
  subst eo6
  have p5 : 0 ≤ (x5_1 : Int) := oD ‹_›
  have q5 : (x5_1 : Int) < ((x0_1.length : Int) : Int) := oD ‹_›
  obtain ⟨go5, co5, eo5, gb5, gl5, cl5, HG5⟩ := Kd.R_form HO_0.out (by omega)
  (cases eo5)
  have GB5 := aM gb5
  have GG5 := aM HG5
  clear gb5 gl5 HG5
  have HMgo5 := aM (show (P0_ go5 ∨ w.heap.size ≤ go5) from (HO_0.out.1 _ rfl))
  obtain ⟨hx5_0, hf5_0⟩ := Kd.R_celln 0 HO_0.out (x5_1 : Int) p5 q5
  replace p5 := eq_true p5
  replace q5 := eq_true q5
  have HP7 := Kd.R_putg HO_0.out (x5_1 : Int) x1_1
  go_wp2_with (((with_reducible refine gate_store (t := 3) (p := 15) rfl ?_); refine store_event (t := 3) (p := 15) (v := ?vo_w8) (w1 := (wr.setCell ⟨go5, (x5_1 : Int).toNat, none⟩ (.int .i64 x1_1))) ?hg ?ho ?hn ?hr ?_; (case ho => rfl); (case hg => rfl); (case hn => rfl); (case hr => (go_simp; done)); intro w8 hw; have hg : wr.grownBy w8 (some go5) := (by rw [hw]; exact HP7.2); have hp_ : Kd.R (Kd.int .i64) 3 w8 w0.heap.size (fun k_ => (P0_ k_ ∨ w.heap.size ≤ k_)) (.slice (some ⟨go5, 0, none⟩) x0_1.length co6) y207 := (by rw [hw, Ny207.out]; exact HP7.1); clear HP7; replace HB := aM ((by rw [hw]; exact below_set (HB.out) GB5.out : Below w0.heap.size w0 w8)); replace HK := aM (Kept.of_grown (S := (fun k_ => P0_ k_)) hg HK.out (fun k_ e_ => (HO_0.out.1 k_ e_))); replace HO_0 := aM (hp_); clear hg hw hp_))
  go_roundg k1
  case measure => have := HK1.out; omega
  case rel => exact ⟨(y207), (wrap64 (x1_1 + 1)), (wrap64 (x5_1 + 1)), (by rfl), (by rfl), H', ⟨by have := HK1.out; omega⟩, ⟨by exact HO_0.out⟩, ⟨by repeat ((with_reducible exact HK.out))⟩, ⟨by repeat ((with_reducible exact HB.out))⟩⟩
def laws_markText.l0 : Nat → Int → ByteArray → Option (ByteArray)
 | 0, _, _ => none
 | k + 1, x0, x3 => if x0 > 0 then ((some (([(wrap64 (48 + (Int.tmod x0 10))) % 256] : List Int) : List Int)).bind fun y208 => (if (strOfNums y208).size + x3.size ≤ 9223372036854775807 then (laws_markText.l0 k (wrap64 (Int.tdiv x0 10)) ((strOfNums y208) ++ x3)) else (none))) else (if 1 + x3.size ≤ 9223372036854775807 then (some ((⟨#[109]⟩ : ByteArray) ++ x3)) else (none))
def laws_markText.f (k : Nat) (a0 : Int) : Option (ByteArray) := if a0 ≤ 0 then (some (⟨#[109, 48]⟩ : ByteArray)) else (laws_markText.l0 k a0 (⟨#[]⟩ : ByteArray))
theorem laws_markText.calls (k : Nat) (a0 : Int) (r : ByteArray) (w : World) (h : laws_markText.f k a0 = some r) :
  Calls Try.prog 85 #[.int .i64 a0] w fun e w' => e = .returned (.string r) ∧ Below w.heap.size w w' := by
 have HB := aM (Below.refl w.heap.size w)
 have H : (if a0 ≤ 0 then (some (⟨#[109, 48]⟩ : ByteArray)) else (laws_markText.l0 k a0 (⟨#[]⟩ : ByteArray))) = some r := h
 clear h
 by_cases c2 : a0 ≤ 0
 ·rw [if_pos c2] at H
  have c2b0 : decide (a0 ≤ 0) = true := decide_eq_true c2
  clear c2
  obtain rfl := Option.some.inj H
  go_enter Try.func85, Try.ntmps85
  go_wp2
  go_ret
  exact ⟨by rfl, by repeat ((with_reducible exact HB.out))⟩
 rw [if_neg c2] at H
 have c2b0 : decide (a0 ≤ 0) = false := decide_eq_false c2
 clear c2
 have H' := aM H
 clear H
 go_enter Try.func85, Try.ntmps85
 go_wp2
 go_loopg [0, 3] k (fun kq v0 v3 w' => ∃ (x0_1 : Int) (x3_1 : ByteArray), v0 = .int .i64 x0_1 ∧ v3 = .string x3_1 ∧ Aside0 (laws_markText.l0 kq x0_1 x3_1 = some r) ∧ Aside0 (kq ≤ k) ∧ Aside0 (Below w.heap.size w w'))
 case atStart => exact ⟨(a0), ((⟨#[]⟩ : ByteArray)), (by rfl), (by rfl), H', ⟨Nat.le_refl _⟩, ⟨by repeat ((with_reducible exact HB.out))⟩⟩
 clear H'
 (try clear c2b0)
 obtain ⟨x0_1, x3_1, rfl, rfl, HA, HK1, HB⟩ := hrel
 cases gk with
 | zero => exact absurd HA.out (by simp [laws_markText.l0])
 | succ k1 =>
  have H := HA.out
  clear HA
  simp only [laws_markText.l0] at H
  by_cases c3 : x0_1 > 0
  rotate_left
  ·rw [if_neg c3] at H
   have c3b0 : decide (0 < x0_1) = false := decide_eq_false c3
   clear c3
   by_cases c8 : 1 + x3_1.size ≤ 9223372036854775807
   rotate_left
   ·rw [if_neg c8] at H
    exact absurd H (by simp)
   rw [if_pos c8] at H
   have c8b0 := eq_true c8
   have c8b1 : decide (1 + x3_1.size ≤ 9223372036854775807) = true := decide_eq_true c8
   try have c8b2 : (9223372036854775807 < 1 + x3_1.size) = False := eq_false (Nat.not_lt.2 c8)
   obtain rfl := Option.some.inj H
   go_wp2
   go_ret
   exact ⟨by rfl, by repeat ((with_reducible exact HB.out))⟩
  rw [if_pos c3] at H
  have c3b0 : decide (0 < x0_1) = true := decide_eq_true c3
  clear c3
  obtain ⟨y208, hy208⟩ : ∃ y_ : List Int, y_ = (([(wrap64 (48 + (Int.tmod x0_1 10))) % 256] : List Int)) := ⟨_, rfl⟩
  replace H : (if (strOfNums y208).size + x3_1.size ≤ 9223372036854775807 then (laws_markText.l0 k1 (wrap64 (Int.tdiv x0_1 10)) ((strOfNums y208) ++ x3_1)) else (none)) = some r := by (have H2_ := (Option.bind_some _ _).symm.trans H; rw [hy208]; with_reducible exact H2_)
  have Ny208 := aM hy208
  clear hy208
  by_cases c4 : (strOfNums y208).size + x3_1.size ≤ 9223372036854775807
  rotate_left
  ·rw [if_neg c4] at H
   exact absurd H (by simp)
  rw [if_pos c4] at H
  have c4b0 := eq_true c4
  have c4b1 : decide ((strOfNums y208).size + x3_1.size ≤ 9223372036854775807) = true := decide_eq_true c4
  try have c4b2 : (9223372036854775807 < (strOfNums y208).size + x3_1.size) = False := eq_false (Nat.not_lt.2 c4)
  have H' := aM H
  clear H
  go_wp2_with (((with_reducible refine gate_dst (N := 12) rfl ?_); refine Kd.R_lit (Kd.int .u8) _ 5 ?hg (N := 12) ?hd (xs := ([(wrap64 (48 + (Int.tmod x0_1 10))) % 256] : List Int)) (inner := [.int .u8 ((wrap64 (48 + (Int.tmod x0_1 10))) % 256)]) (ok := fun _ => True) (okp := fun _ => True) ?hr ?hp (fun _ hk => hk) trivial (Below.refl _ _) (Nat.le_refl _) (by simp) ?_; (case hd => rfl); (case hg => rfl); (case hr => (go_simp; done)); (case hp => exact (Reps.one (show Kd.M (Kd.int .u8) _ _ _ ((wrap64 (48 + (Int.tmod x0_1 10))) % 256) [.int .u8 ((wrap64 (48 + (Int.tmod x0_1 10))) % 256)] from rfl) (Reps.none _ _))); intro v209 w5 ho6 hb hg_ hnew_; clear hg_ hnew_; (rw [← Ny208.out] at ho6); have HO210 := aM (Kd.R_lower ho6 (below_size HB.out)); replace HB := aB HB hb; clear hb ho6; have hcv7 := own_string (P := Try.prog) Try.underlying135 Try.underlying5 Try.underlying9 (Kd.own_of_R HO210.out)))
  go_roundg k1
  case measure => have := HK1.out; omega
  case rel => exact ⟨(wrap64 (Int.tdiv x0_1 10)), ((strOfNums y208) ++ x3_1), (by rfl), (by rfl), H', ⟨by have := HK1.out; omega⟩, ⟨by repeat ((with_reducible exact HB.out))⟩⟩
def laws_markStringS.l0 : Nat → List ByteArray → Int → Int → Option (Int × List ByteArray)
 | 0, _, _, _ => none
 | k + 1, x0, x1, x5 => if x5 < (x0.length : Int) then ((laws_markText.f k x1).bind fun t211 => (if 0 ≤ x5 then (laws_markStringS.l0 k (x0.set (x5 : Int).toNat t211) (wrap64 (x1 + 1)) (wrap64 (x5 + 1))) else (none))) else (some (x1, x0))
def laws_markStringS.f (k : Nat) (l0 : List ByteArray) (a1 : Int) : Option (Int × List ByteArray) := laws_markStringS.l0 k l0 a1 0
theorem laws_markStringS.calls (k : Nat) (P0_ : Nat → Prop) (u9000_ : Value) (l0 : List ByteArray) (a1 : Int) (r1 : Int) (r2 : List ByteArray) (w0 w : World) (hB : Below w0.heap.size w0 w) (ho0 : Kd.R Kd.string 9 w w0.heap.size P0_ u9000_ l0) (h : laws_markStringS.f k l0 a1 = some (r1, r2)) :
  Calls Try.prog 54 #[u9000_, .int .i64 a1] w fun e w' => e = .returned (.int .i64 r1) ∧ Kd.R Kd.string 9 w' w0.heap.size (fun k_ => (P0_ k_ ∨ w.heap.size ≤ k_)) u9000_ r2 ∧ Below w0.heap.size w0 w' ∧ Kept w w' (fun k_ => P0_ k_) := by
 have HO0 := aM (show Kd.R Kd.string 9 w w0.heap.size (fun k_ => (P0_ k_ ∨ w.heap.size ≤ k_)) u9000_ l0 from Kd.R_mono ho0 (fun k_ hk => (.inl hk)))
 have HK := aM (Kept.refl w (fun k_ => P0_ k_))
 have HW0 := aM hB.size
 have HB := aM hB
 clear hB
 have H : (laws_markStringS.l0 k l0 a1 0) = some (r1, r2) := h
 clear h
 have H' := aM H
 clear H
 go_enter Try.func54, Try.ntmps54
 go_wp2
 go_loopg [1, 5] k (fun kq v1 v5 w' => ∃ (x0_1 : List ByteArray) (x1_1 : Int) (x5_1 : Int), v1 = .int .i64 x1_1 ∧ v5 = .int .i64 x5_1 ∧ Aside0 (laws_markStringS.l0 kq x0_1 x1_1 x5_1 = some (r1, r2)) ∧ Aside0 (kq ≤ k) ∧ Aside0 (Kd.R Kd.string 9 w' w0.heap.size (fun k_ => (P0_ k_ ∨ w.heap.size ≤ k_)) u9000_ x0_1) ∧ Aside0 (Kept w w' (fun k_ => P0_ k_)) ∧ Aside0 (Below w0.heap.size w0 w'))
 case atStart => exact ⟨(l0), (a1), (0), (by rfl), (by rfl), H', ⟨Nat.le_refl _⟩, ⟨by exact HO0.out⟩, ⟨by repeat ((with_reducible exact HK.out))⟩, ⟨by repeat ((with_reducible exact HB.out))⟩⟩
 clear H'
 obtain ⟨x0_1, x1_1, x5_1, rfl, rfl, HA, HK1, HO_0, HK, HB⟩ := hrel
 cases gk with
 | zero => exact absurd HA.out (by simp [laws_markStringS.l0])
 | succ k1 =>
  have H := HA.out
  clear HA
  simp only [laws_markStringS.l0] at H
  by_cases c3 : x5_1 < (x0_1.length : Int)
  rotate_left
  ·rw [if_neg c3] at H
   have c3b0 : decide (x5_1 < (x0_1.length : Int)) = false := decide_eq_false c3
   clear c3
   simp only [Option.some.injEq, Prod.mk.injEq] at H
   obtain ⟨rfl, rfl⟩ := H
   obtain ⟨Ao11, co11, eo11⟩ := Kd.R_slice HO_0.out
   subst eo11
   go_wp2
   go_ret
   exact ⟨by rfl, by exact HO_0.out, by repeat ((with_reducible exact HB.out)), by repeat ((with_reducible exact HK.out))⟩
  rw [if_pos c3] at H
  have c3b0 : decide (x5_1 < (x0_1.length : Int)) = true := decide_eq_true c3
  clear c3
  replace H := bS H
  obtain ⟨t211, A40, H⟩ := H
  replace H : (if 0 ≤ x5_1 then (laws_markStringS.l0 k1 (x0_1.set (x5_1 : Int).toNat t211) (wrap64 (x1_1 + 1)) (wrap64 (x5_1 + 1))) else (none)) = some (r1, r2) := H
  have A4 := aM A40
  clear A40
  by_cases c5 : 0 ≤ x5_1
  rotate_left
  ·rw [if_neg c5] at H
   exact absurd H (by simp)
  rw [if_pos c5] at H
  have c5b0 : decide (0 ≤ x5_1) = true := decide_eq_true c5
  clear c5
  obtain ⟨y212, hy212⟩ : ∃ y_ : List ByteArray, y_ = (x0_1.set (x5_1 : Int).toNat t211) := ⟨_, rfl⟩
  replace H : (laws_markStringS.l0 k1 y212 (wrap64 (x1_1 + 1)) (wrap64 (x5_1 + 1))) = some (r1, r2) := by (rw [hy212]; with_reducible exact H)
  have Ny212 := aM hy212
  clear hy212
  have H' := aM H
  clear H
  obtain ⟨Ao7, co7, eo7⟩ := Kd.R_slice HO_0.out
  subst eo7
  go_wp2_with (first | (go_at_call 85; (with_reducible refine (laws_markText.calls k1 x1_1 t211 _ A4.out).mono ?_); rintro e w8 ⟨rfl, hb⟩; replace HO_0 := aM (Kd.R_below HO_0.out hb); replace HK := aM (Kept.below (S := (fun k_ => P0_ k_)) HK.out hb); replace HB := aB HB hb; (try clear hb); have p6 : 0 ≤ (x5_1 : Int) := oD ‹_›; have q6 : (x5_1 : Int) < ((x0_1.length : Int) : Int) := oD ‹_›; obtain ⟨go6, co6, eo6, gb6, gl6, cl6, HG6⟩ := Kd.R_form HO_0.out (by omega); (cases eo6); have GB6 := aM gb6; have GG6 := aM HG6; clear gb6 gl6 HG6; have HMgo6 := aM (show (P0_ go6 ∨ w.heap.size ≤ go6) from (HO_0.out.1 _ rfl)); obtain ⟨hx6_0, hf6_0⟩ := Kd.R_celln (⟨#[]⟩ : ByteArray) HO_0.out (x5_1 : Int) p6 q6; replace p6 := eq_true p6; replace q6 := eq_true q6; obtain ⟨hy9_, hz9_⟩ := Kd.R_celln (⟨#[]⟩ : ByteArray) HO_0.out (x5_1 : Int) (oD ‹_›) (oD ‹_›); have HP9 := Kd.R_putg HO_0.out (x5_1 : Int) t211) | ((with_reducible refine gate_store (t := 9) (p := 16) rfl ?_); refine store_event (t := 9) (p := 16) (v := ?vo_w10) (w1 := (w8.setCell ⟨go6, (x5_1 : Int).toNat, none⟩ (.string t211))) ?hg ?ho ?hn ?hr ?_; (case ho => rfl); (case hg => rfl); (case hn => rfl); (case hr => (go_simp; done)); intro w10 hw; have hg : w8.grownBy w10 (some go6) := (by rw [hw]; exact HP9.2); have hp_ : Kd.R Kd.string 9 w10 w0.heap.size (fun k_ => (P0_ k_ ∨ w.heap.size ≤ k_)) (.slice (some ⟨go6, 0, none⟩) x0_1.length co7) y212 := (by rw [hw, Ny212.out]; exact HP9.1); clear HP9; replace HB := aM ((by rw [hw]; exact below_set (HB.out) GB6.out : Below w0.heap.size w0 w10)); replace HK := aM (Kept.of_grown (S := (fun k_ => P0_ k_)) hg HK.out (fun k_ e_ => (HO_0.out.1 k_ e_))); replace HO_0 := aM (hp_); clear hg hw hp_))
  go_roundg k1
  case measure => have := HK1.out; omega
  case rel => exact ⟨(y212), (wrap64 (x1_1 + 1)), (wrap64 (x5_1 + 1)), (by rfl), (by rfl), H', ⟨by have := HK1.out; omega⟩, ⟨by exact HO_0.out⟩, ⟨by repeat ((with_reducible exact HK.out))⟩, ⟨by repeat ((with_reducible exact HB.out))⟩⟩
def laws_markLinkS.l0 : Nat → List (S92) → Int → Int → Option (Int × (List (S92)))
 | 0, _, _, _ => none
 | k + 1, x0, x1, x5 => if x5 < (x0.length : Int) then (if 0 ≤ x5 then ((some (x0.set (x5 : Int).toNat (⟨x1, (rd_T92 x0 x5).f1, (rd_T92 x0 x5).f2⟩ : S92) : List (S92))).bind fun y213 => ((some (y213.set (x5 : Int).toNat (⟨(rd_T92 y213 x5).f0, wrap64 (x1 + 1), (rd_T92 y213 x5).f2⟩ : S92) : List (S92))).bind fun y214 => (laws_markLinkS.l0 k (y214.set (x5 : Int).toNat (⟨(rd_T92 y214 x5).f0, (rd_T92 y214 x5).f1, wrap64 ((wrap64 (x1 + 1)) + 1)⟩ : S92)) (wrap64 ((wrap64 ((wrap64 (x1 + 1)) + 1)) + 1)) (wrap64 (x5 + 1))))) else (none)) else (some (x1, x0))
def laws_markLinkS.f (k : Nat) (l0 : List (S92)) (a1 : Int) : Option (Int × (List (S92))) := laws_markLinkS.l0 k l0 a1 0
theorem laws_markLinkS.calls (k : Nat) (P0_ : Nat → Prop) (u9000_ : Value) (l0 : List (S92)) (a1 : Int) (r1 : Int) (r2 : List (S92)) (w0 w : World) (hB : Below w0.heap.size w0 w) (ho0 : Kd.R k92 92 w w0.heap.size P0_ u9000_ l0) (h : laws_markLinkS.f k l0 a1 = some (r1, r2)) :
  Calls Try.prog 55 #[u9000_, .int .i64 a1] w fun e w' => e = .returned (.int .i64 r1) ∧ Kd.R k92 92 w' w0.heap.size (fun k_ => (P0_ k_ ∨ w.heap.size ≤ k_)) u9000_ r2 ∧ Below w0.heap.size w0 w' ∧ Kept w w' (fun k_ => P0_ k_) := by
 have HO0 := aM (show Kd.R k92 92 w w0.heap.size (fun k_ => (P0_ k_ ∨ w.heap.size ≤ k_)) u9000_ l0 from Kd.R_mono ho0 (fun k_ hk => (.inl hk)))
 have HK := aM (Kept.refl w (fun k_ => P0_ k_))
 have HW0 := aM hB.size
 have HB := aM hB
 clear hB
 have H : (laws_markLinkS.l0 k l0 a1 0) = some (r1, r2) := h
 clear h
 have H' := aM H
 clear H
 go_enter Try.func55, Try.ntmps55
 go_wp2
 go_loopg [1, 5] k (fun kq v1 v5 w' => ∃ (x0_1 : List (S92)) (x1_1 : Int) (x5_1 : Int), v1 = .int .i64 x1_1 ∧ v5 = .int .i64 x5_1 ∧ Aside0 (laws_markLinkS.l0 kq x0_1 x1_1 x5_1 = some (r1, r2)) ∧ Aside0 (kq ≤ k) ∧ Aside0 (Kd.R k92 92 w' w0.heap.size (fun k_ => (P0_ k_ ∨ w.heap.size ≤ k_)) u9000_ x0_1) ∧ Aside0 (Kept w w' (fun k_ => P0_ k_)) ∧ Aside0 (Below w0.heap.size w0 w'))
 case atStart => exact ⟨(l0), (a1), (0), (by rfl), (by rfl), H', ⟨Nat.le_refl _⟩, ⟨by exact HO0.out⟩, ⟨by repeat ((with_reducible exact HK.out))⟩, ⟨by repeat ((with_reducible exact HB.out))⟩⟩
 clear H'
 obtain ⟨x0_1, x1_1, x5_1, rfl, rfl, HA, HK1, HO_0, HK, HB⟩ := hrel
 cases gk with
 | zero => exact absurd HA.out (by simp [laws_markLinkS.l0])
 | succ k1 =>
  have H := HA.out
  clear HA
  simp only [laws_markLinkS.l0] at H
  by_cases c3 : x5_1 < (x0_1.length : Int)
  rotate_left
  ·rw [if_neg c3] at H
   have c3b0 : decide (x5_1 < (x0_1.length : Int)) = false := decide_eq_false c3
   clear c3
   simp only [Option.some.injEq, Prod.mk.injEq] at H
   obtain ⟨rfl, rfl⟩ := H
   obtain ⟨Ao15, co15, eo15⟩ := Kd.R_slice HO_0.out
   subst eo15
   go_wp2
   go_ret
   exact ⟨by rfl, by exact HO_0.out, by repeat ((with_reducible exact HB.out)), by repeat ((with_reducible exact HK.out))⟩
  rw [if_pos c3] at H
  have c3b0 : decide (x5_1 < (x0_1.length : Int)) = true := decide_eq_true c3
  clear c3
  by_cases c4 : 0 ≤ x5_1
  rotate_left
  ·rw [if_neg c4] at H
   exact absurd H (by simp)
  rw [if_pos c4] at H
  have c4b0 : decide (0 ≤ x5_1) = true := decide_eq_true c4
  clear c4
  obtain ⟨y213, hy213⟩ : ∃ y_ : List (S92), y_ = (x0_1.set (x5_1 : Int).toNat (⟨x1_1, (rd_T92 x0_1 x5_1).f1, (rd_T92 x0_1 x5_1).f2⟩ : S92)) := ⟨_, rfl⟩
  replace H : ((some (y213.set (x5_1 : Int).toNat (⟨(rd_T92 y213 x5_1).f0, wrap64 (x1_1 + 1), (rd_T92 y213 x5_1).f2⟩ : S92) : List (S92))).bind fun y214 => (laws_markLinkS.l0 k1 (y214.set (x5_1 : Int).toNat (⟨(rd_T92 y214 x5_1).f0, (rd_T92 y214 x5_1).f1, wrap64 ((wrap64 (x1_1 + 1)) + 1)⟩ : S92)) (wrap64 ((wrap64 ((wrap64 (x1_1 + 1)) + 1)) + 1)) (wrap64 (x5_1 + 1)))) = some (r1, r2) := by (have H2_ := (Option.bind_some _ _).symm.trans H; rw [hy213]; with_reducible exact H2_)
  have Ny213 := aM hy213
  clear hy213
  obtain ⟨y214, hy214⟩ : ∃ y_ : List (S92), y_ = (y213.set (x5_1 : Int).toNat (⟨(rd_T92 y213 x5_1).f0, wrap64 (x1_1 + 1), (rd_T92 y213 x5_1).f2⟩ : S92)) := ⟨_, rfl⟩
  replace H : (laws_markLinkS.l0 k1 (y214.set (x5_1 : Int).toNat (⟨(rd_T92 y214 x5_1).f0, (rd_T92 y214 x5_1).f1, wrap64 ((wrap64 (x1_1 + 1)) + 1)⟩ : S92)) (wrap64 ((wrap64 ((wrap64 (x1_1 + 1)) + 1)) + 1)) (wrap64 (x5_1 + 1))) = some (r1, r2) := by (have H2_ := (Option.bind_some _ _).symm.trans H; rw [hy214]; with_reducible exact H2_)
  have Ny214 := aM hy214
  clear hy214
  obtain ⟨y215, hy215⟩ : ∃ y_ : List (S92), y_ = (y214.set (x5_1 : Int).toNat (⟨(rd_T92 y214 x5_1).f0, (rd_T92 y214 x5_1).f1, wrap64 ((wrap64 (x1_1 + 1)) + 1)⟩ : S92)) := ⟨_, rfl⟩
  replace H : (laws_markLinkS.l0 k1 y215 (wrap64 ((wrap64 ((wrap64 (x1_1 + 1)) + 1)) + 1)) (wrap64 (x5_1 + 1))) = some (r1, r2) := by (rw [hy215]; with_reducible exact H)
  have Ny215 := aM hy215
  clear hy215
  have H' := aM H
  clear H
  obtain ⟨Ao8, co8, eo8⟩ := Kd.R_slice HO_0.out
  subst eo8
  have p5 : 0 ≤ (x5_1 : Int) := oD ‹_›
  have q5 : (x5_1 : Int) < ((x0_1.length : Int) : Int) := oD ‹_›
  obtain ⟨go5, co5, eo5, gb5, gl5, cl5, HG5⟩ := Kd.R_form HO_0.out (by omega)
  (cases eo5)
  have GB5 := aM gb5
  have GG5 := aM HG5
  clear gb5 gl5 HG5
  have HMgo5 := aM (show (P0_ go5 ∨ w.heap.size ≤ go5) from (HO_0.out.1 _ rfl))
  obtain ⟨ce5, hcl5, hM5, hcc5, hfr5⟩ := Kd.R_elem HO_0.out z92 (x5_1 : Int) p5 q5
  obtain rfl := k92_openM hM5
  have hx5_0 : wr.cell? ⟨go5, (x5_1 : Int).toNat * 3, none⟩ = some (.int .i64 ((rd_T92 x0_1 x5_1).f0)) := hcc5 0 _ rfl
  have hx5_1 : wr.cell? ⟨go5, (x5_1 : Int).toNat * 3 + 1, none⟩ = some (.int .i64 ((rd_T92 x0_1 x5_1).f1)) := hcc5 1 _ rfl
  have hx5_2 : wr.cell? ⟨go5, (x5_1 : Int).toNat * 3 + 2, none⟩ = some (.int .i64 ((rd_T92 x0_1 x5_1).f2)) := hcc5 2 _ rfl
  have hf5_0 : wr.frozen? ⟨go5, (x5_1 : Int).toNat * 3, none⟩ = false := hfr5 0
  have hf5_1 : wr.frozen? ⟨go5, (x5_1 : Int).toNat * 3 + 1, none⟩ = false := hfr5 1
  have hf5_2 : wr.frozen? ⟨go5, (x5_1 : Int).toNat * 3 + 2, none⟩ = false := hfr5 2
  clear hcl5 hcc5 hfr5; (try clear hM5)
  replace p5 := eq_true p5
  replace q5 := eq_true q5
  have HX9 := aM (show Kd.R k92 92 wr w0.heap.size (fun k_ => (P0_ k_ ∨ w.heap.size ≤ k_)) (.slice (some ⟨go5, 0, none⟩) x0_1.length co8) x0_1 from HO_0.out)
  obtain ⟨ce9, hcl9, hM9, hcc9, hfr9⟩ := Kd.R_elem HX9.out z92 (x5_1 : Int) (oD ‹_›) (by have h_ : (x5_1 : Int) < ((x0_1.length : Int) : Int) := oD ‹_›; exact h_)
  obtain rfl := k92_openM hM9
  have HP9 := Kd.R_seg HX9.out (x5_1 : Int) (oD ‹_›) (by have h_ : (x5_1 : Int) < ((x0_1.length : Int) : Int) := oD ‹_›; exact h_) (seg := [.int .i64 x1_1]) (j := 0) hcl9 hcc9 (show 1 ≤ 3 from by decide) (x' := (⟨x1_1, (rd_T92 x0_1 x5_1).f1, (rd_T92 x0_1 x5_1).f2⟩ : S92)) (k92_mkM _ _ _ (⟨x1_1, (rd_T92 x0_1 x5_1).f1, (rd_T92 x0_1 x5_1).f2⟩ : S92) ) (fun _ hk => hk)
  have hx9_0 := hcc9 0 _ rfl
  (try simp only [show (k92).sz = 3 from rfl, Nat.mul_one, Nat.add_zero] at hx9_0)
  have hf9_0 := hfr9 0
  (try simp only [show (k92).sz = 3 from rfl, Nat.mul_one, Nat.add_zero] at hf9_0)
  clear hcl9 hcc9 hfr9; (try clear hM9)
  go_wp2_with (first | ((with_reducible refine gate_store (t := 3) (p := 16) rfl ?_); refine store_event (t := 3) (p := 16) (v := ?vo_w10) (w1 := (wr.setCell ⟨go5, (x5_1 : Int).toNat * 3, none⟩ (.int .i64 x1_1))) ?hg ?ho ?hn ?hr ?_; (case ho => rfl); (case hg => rfl); (case hn => rfl); (case hr => (go_simp; done)); intro w10 hw; have hg : wr.grownBy w10 (some go5) := (by rw [hw]; exact HP9.2); have hp_ : Kd.R k92 92 w10 w0.heap.size (fun k_ => (P0_ k_ ∨ w.heap.size ≤ k_)) (.slice (some ⟨go5, 0, none⟩) x0_1.length co8) y213 := (by rw [hw, Ny213.out]; exact HP9.1); clear HP9; replace HB := aM ((by rw [hw]; exact below_set (HB.out) GB5.out : Below w0.heap.size w0 w10)); replace HK := aM (Kept.of_grown (S := (fun k_ => P0_ k_)) hg HK.out (fun k_ e_ => (HO_0.out.1 k_ e_))); replace HO_0 := aM (hp_); clear hg hw hp_; have p6 : 0 ≤ (x5_1 : Int) := oD ‹_›; have q6 : (x5_1 : Int) < ((x0_1.length : Int) : Int) := oD ‹_›; obtain ⟨ce6, hcl6, hM6, hcc6, hfr6⟩ := Kd.R_elem HO_0.out z92 (x5_1 : Int) p6 q6; obtain rfl := k92_openM hM6; have hx6_0 : w10.cell? ⟨go5, (x5_1 : Int).toNat * 3, none⟩ = some (.int .i64 ((rd_T92 y213 x5_1).f0)) := hcc6 0 _ rfl; have hx6_1 : w10.cell? ⟨go5, (x5_1 : Int).toNat * 3 + 1, none⟩ = some (.int .i64 ((rd_T92 y213 x5_1).f1)) := hcc6 1 _ rfl; have hx6_2 : w10.cell? ⟨go5, (x5_1 : Int).toNat * 3 + 2, none⟩ = some (.int .i64 ((rd_T92 y213 x5_1).f2)) := hcc6 2 _ rfl; have hf6_0 : w10.frozen? ⟨go5, (x5_1 : Int).toNat * 3, none⟩ = false := hfr6 0; have hf6_1 : w10.frozen? ⟨go5, (x5_1 : Int).toNat * 3 + 1, none⟩ = false := hfr6 1; have hf6_2 : w10.frozen? ⟨go5, (x5_1 : Int).toNat * 3 + 2, none⟩ = false := hfr6 2; clear hcl6 hcc6 hfr6; (try clear hM6); replace p6 := eq_true p6; replace q6 := eq_true q6; have HX11 := aM (show Kd.R k92 92 w10 w0.heap.size (fun k_ => (P0_ k_ ∨ w.heap.size ≤ k_)) (.slice (some ⟨go5, 0, none⟩) x0_1.length co8) y213 from HO_0.out); obtain ⟨ce11, hcl11, hM11, hcc11, hfr11⟩ := Kd.R_elem HX11.out z92 (x5_1 : Int) (oD ‹_›) (by have h_ : (x5_1 : Int) < ((x0_1.length : Int) : Int) := oD ‹_›; exact h_); obtain rfl := k92_openM hM11; have HP11 := Kd.R_seg HX11.out (x5_1 : Int) (oD ‹_›) (by have h_ : (x5_1 : Int) < ((x0_1.length : Int) : Int) := oD ‹_›; exact h_) (seg := [.int .i64 (wrap64 (x1_1 + 1))]) (j := 1) hcl11 hcc11 (show 2 ≤ 3 from by decide) (x' := (⟨(rd_T92 y213 x5_1).f0, wrap64 (x1_1 + 1), (rd_T92 y213 x5_1).f2⟩ : S92)) (k92_mkM _ _ _ (⟨(rd_T92 y213 x5_1).f0, wrap64 (x1_1 + 1), (rd_T92 y213 x5_1).f2⟩ : S92) ) (fun _ hk => hk); have hx11_1 := hcc11 1 _ rfl; (try simp only [show (k92).sz = 3 from rfl, Nat.mul_one, Nat.add_zero] at hx11_1); have hf11_1 := hfr11 1; (try simp only [show (k92).sz = 3 from rfl, Nat.mul_one, Nat.add_zero] at hf11_1); clear hcl11 hcc11 hfr11; (try clear hM11)) | ((with_reducible refine gate_store (t := 3) (p := 23) rfl ?_); refine store_event (t := 3) (p := 23) (v := ?vo_w12) (w1 := (w10.setCell ⟨go5, (x5_1 : Int).toNat * 3 + 1, none⟩ (.int .i64 (wrap64 (x1_1 + 1))))) ?hg ?ho ?hn ?hr ?_; (case ho => rfl); (case hg => rfl); (case hn => rfl); (case hr => (go_simp; done)); intro w12 hw; have hg : w10.grownBy w12 (some go5) := (by rw [hw]; exact HP11.2); have hp_ : Kd.R k92 92 w12 w0.heap.size (fun k_ => (P0_ k_ ∨ w.heap.size ≤ k_)) (.slice (some ⟨go5, 0, none⟩) x0_1.length co8) y214 := (by rw [hw, Ny214.out]; exact HP11.1); clear HP11; replace HB := aM ((by rw [hw]; exact below_set (HB.out) GB5.out : Below w0.heap.size w0 w12)); replace HK := aM (Kept.of_grown (S := (fun k_ => P0_ k_)) hg HK.out (fun k_ e_ => (HO_0.out.1 k_ e_))); replace HO_0 := aM (hp_); clear hg hw hp_; have p7 : 0 ≤ (x5_1 : Int) := oD ‹_›; have q7 : (x5_1 : Int) < ((x0_1.length : Int) : Int) := oD ‹_›; obtain ⟨ce7, hcl7, hM7, hcc7, hfr7⟩ := Kd.R_elem HO_0.out z92 (x5_1 : Int) p7 q7; obtain rfl := k92_openM hM7; have hx7_0 : w12.cell? ⟨go5, (x5_1 : Int).toNat * 3, none⟩ = some (.int .i64 ((rd_T92 y214 x5_1).f0)) := hcc7 0 _ rfl; have hx7_1 : w12.cell? ⟨go5, (x5_1 : Int).toNat * 3 + 1, none⟩ = some (.int .i64 ((rd_T92 y214 x5_1).f1)) := hcc7 1 _ rfl; have hx7_2 : w12.cell? ⟨go5, (x5_1 : Int).toNat * 3 + 2, none⟩ = some (.int .i64 ((rd_T92 y214 x5_1).f2)) := hcc7 2 _ rfl; have hf7_0 : w12.frozen? ⟨go5, (x5_1 : Int).toNat * 3, none⟩ = false := hfr7 0; have hf7_1 : w12.frozen? ⟨go5, (x5_1 : Int).toNat * 3 + 1, none⟩ = false := hfr7 1; have hf7_2 : w12.frozen? ⟨go5, (x5_1 : Int).toNat * 3 + 2, none⟩ = false := hfr7 2; clear hcl7 hcc7 hfr7; (try clear hM7); replace p7 := eq_true p7; replace q7 := eq_true q7; have HX13 := aM (show Kd.R k92 92 w12 w0.heap.size (fun k_ => (P0_ k_ ∨ w.heap.size ≤ k_)) (.slice (some ⟨go5, 0, none⟩) x0_1.length co8) y214 from HO_0.out); obtain ⟨ce13, hcl13, hM13, hcc13, hfr13⟩ := Kd.R_elem HX13.out z92 (x5_1 : Int) (oD ‹_›) (by have h_ : (x5_1 : Int) < ((x0_1.length : Int) : Int) := oD ‹_›; exact h_); obtain rfl := k92_openM hM13; have HP13 := Kd.R_seg HX13.out (x5_1 : Int) (oD ‹_›) (by have h_ : (x5_1 : Int) < ((x0_1.length : Int) : Int) := oD ‹_›; exact h_) (seg := [.int .i64 (wrap64 ((wrap64 (x1_1 + 1)) + 1))]) (j := 2) hcl13 hcc13 (show 3 ≤ 3 from by decide) (x' := (⟨(rd_T92 y214 x5_1).f0, (rd_T92 y214 x5_1).f1, wrap64 ((wrap64 (x1_1 + 1)) + 1)⟩ : S92)) (k92_mkM _ _ _ (⟨(rd_T92 y214 x5_1).f0, (rd_T92 y214 x5_1).f1, wrap64 ((wrap64 (x1_1 + 1)) + 1)⟩ : S92) ) (fun _ hk => hk); have hx13_2 := hcc13 2 _ rfl; (try simp only [show (k92).sz = 3 from rfl, Nat.mul_one, Nat.add_zero] at hx13_2); have hf13_2 := hfr13 2; (try simp only [show (k92).sz = 3 from rfl, Nat.mul_one, Nat.add_zero] at hf13_2); clear hcl13 hcc13 hfr13; (try clear hM13)) | ((with_reducible refine gate_store (t := 3) (p := 30) rfl ?_); refine store_event (t := 3) (p := 30) (v := ?vo_w14) (w1 := (w12.setCell ⟨go5, (x5_1 : Int).toNat * 3 + 2, none⟩ (.int .i64 (wrap64 ((wrap64 (x1_1 + 1)) + 1))))) ?hg ?ho ?hn ?hr ?_; (case ho => rfl); (case hg => rfl); (case hn => rfl); (case hr => (go_simp; done)); intro w14 hw; have hg : w12.grownBy w14 (some go5) := (by rw [hw]; exact HP13.2); have hp_ : Kd.R k92 92 w14 w0.heap.size (fun k_ => (P0_ k_ ∨ w.heap.size ≤ k_)) (.slice (some ⟨go5, 0, none⟩) x0_1.length co8) y215 := (by rw [hw, Ny215.out]; exact HP13.1); clear HP13; replace HB := aM ((by rw [hw]; exact below_set (HB.out) GB5.out : Below w0.heap.size w0 w14)); replace HK := aM (Kept.of_grown (S := (fun k_ => P0_ k_)) hg HK.out (fun k_ e_ => (HO_0.out.1 k_ e_))); replace HO_0 := aM (hp_); clear hg hw hp_))
  go_roundg k1
  case measure => have := HK1.out; omega
  case rel => exact ⟨(y215), (wrap64 ((wrap64 ((wrap64 (x1_1 + 1)) + 1)) + 1)), (wrap64 (x5_1 + 1)), (by rfl), (by rfl), H', ⟨by have := HK1.out; omega⟩, ⟨by exact HO_0.out⟩, ⟨by repeat ((with_reducible exact HK.out))⟩, ⟨by repeat ((with_reducible exact HB.out))⟩⟩
def laws_markImportS.l0 : Nat → List (S95) → Int → Int → Option (Int × (List (S95)))
 | 0, _, _, _ => none
 | k + 1, x0, x1, x5 => if x5 < (x0.length : Int) then (if 0 ≤ x5 then ((some (x0.set (x5 : Int).toNat (⟨x1, (rd_T95 x0 x5).f1, (rd_T95 x0 x5).f2, (rd_T95 x0 x5).f3, (rd_T95 x0 x5).f4⟩ : S95) : List (S95))).bind fun y216 => ((some (y216.set (x5 : Int).toNat (⟨(rd_T95 y216 x5).f0, wrap64 (x1 + 1), (rd_T95 y216 x5).f2, (rd_T95 y216 x5).f3, (rd_T95 y216 x5).f4⟩ : S95) : List (S95))).bind fun y217 => ((some (y217.set (x5 : Int).toNat (⟨(rd_T95 y217 x5).f0, (rd_T95 y217 x5).f1, wrap64 ((wrap64 (x1 + 1)) + 1), (rd_T95 y217 x5).f3, (rd_T95 y217 x5).f4⟩ : S95) : List (S95))).bind fun y218 => ((some (y218.set (x5 : Int).toNat (⟨(rd_T95 y218 x5).f0, (rd_T95 y218 x5).f1, (rd_T95 y218 x5).f2, wrap64 ((wrap64 ((wrap64 (x1 + 1)) + 1)) + 1), (rd_T95 y218 x5).f4⟩ : S95) : List (S95))).bind fun y219 => (laws_markImportS.l0 k (y219.set (x5 : Int).toNat (⟨(rd_T95 y219 x5).f0, (rd_T95 y219 x5).f1, (rd_T95 y219 x5).f2, (rd_T95 y219 x5).f3, wrap64 ((wrap64 ((wrap64 ((wrap64 (x1 + 1)) + 1)) + 1)) + 1)⟩ : S95)) (wrap64 ((wrap64 ((wrap64 ((wrap64 ((wrap64 (x1 + 1)) + 1)) + 1)) + 1)) + 1)) (wrap64 (x5 + 1))))))) else (none)) else (some (x1, x0))
def laws_markImportS.f (k : Nat) (l0 : List (S95)) (a1 : Int) : Option (Int × (List (S95))) := laws_markImportS.l0 k l0 a1 0
theorem laws_markImportS.calls (k : Nat) (P0_ : Nat → Prop) (u9000_ : Value) (l0 : List (S95)) (a1 : Int) (r1 : Int) (r2 : List (S95)) (w0 w : World) (hB : Below w0.heap.size w0 w) (ho0 : Kd.R k95 95 w w0.heap.size P0_ u9000_ l0) (h : laws_markImportS.f k l0 a1 = some (r1, r2)) :
  Calls Try.prog 56 #[u9000_, .int .i64 a1] w fun e w' => e = .returned (.int .i64 r1) ∧ Kd.R k95 95 w' w0.heap.size (fun k_ => (P0_ k_ ∨ w.heap.size ≤ k_)) u9000_ r2 ∧ Below w0.heap.size w0 w' ∧ Kept w w' (fun k_ => P0_ k_) := by
 have HO0 := aM (show Kd.R k95 95 w w0.heap.size (fun k_ => (P0_ k_ ∨ w.heap.size ≤ k_)) u9000_ l0 from Kd.R_mono ho0 (fun k_ hk => (.inl hk)))
 have HK := aM (Kept.refl w (fun k_ => P0_ k_))
 have HW0 := aM hB.size
 have HB := aM hB
 clear hB
 have H : (laws_markImportS.l0 k l0 a1 0) = some (r1, r2) := h
 clear h
 have H' := aM H
 clear H
 go_enter Try.func56, Try.ntmps56
 go_wp2
 go_loopg [1, 5] k (fun kq v1 v5 w' => ∃ (x0_1 : List (S95)) (x1_1 : Int) (x5_1 : Int), v1 = .int .i64 x1_1 ∧ v5 = .int .i64 x5_1 ∧ Aside0 (laws_markImportS.l0 kq x0_1 x1_1 x5_1 = some (r1, r2)) ∧ Aside0 (kq ≤ k) ∧ Aside0 (Kd.R k95 95 w' w0.heap.size (fun k_ => (P0_ k_ ∨ w.heap.size ≤ k_)) u9000_ x0_1) ∧ Aside0 (Kept w w' (fun k_ => P0_ k_)) ∧ Aside0 (Below w0.heap.size w0 w'))
 case atStart => exact ⟨(l0), (a1), (0), (by rfl), (by rfl), H', ⟨Nat.le_refl _⟩, ⟨by exact HO0.out⟩, ⟨by repeat ((with_reducible exact HK.out))⟩, ⟨by repeat ((with_reducible exact HB.out))⟩⟩
 clear H'
 obtain ⟨x0_1, x1_1, x5_1, rfl, rfl, HA, HK1, HO_0, HK, HB⟩ := hrel
 cases gk with
 | zero => exact absurd HA.out (by simp [laws_markImportS.l0])
 | succ k1 =>
  have H := HA.out
  clear HA
  simp only [laws_markImportS.l0] at H
  by_cases c3 : x5_1 < (x0_1.length : Int)
  rotate_left
  ·rw [if_neg c3] at H
   have c3b0 : decide (x5_1 < (x0_1.length : Int)) = false := decide_eq_false c3
   clear c3
   simp only [Option.some.injEq, Prod.mk.injEq] at H
   obtain ⟨rfl, rfl⟩ := H
   obtain ⟨Ao21, co21, eo21⟩ := Kd.R_slice HO_0.out
   subst eo21
   go_wp2
   go_ret
   exact ⟨by rfl, by exact HO_0.out, by repeat ((with_reducible exact HB.out)), by repeat ((with_reducible exact HK.out))⟩
  rw [if_pos c3] at H
  have c3b0 : decide (x5_1 < (x0_1.length : Int)) = true := decide_eq_true c3
  clear c3
  by_cases c4 : 0 ≤ x5_1
  rotate_left
  ·rw [if_neg c4] at H
   exact absurd H (by simp)
  rw [if_pos c4] at H
  have c4b0 : decide (0 ≤ x5_1) = true := decide_eq_true c4
  clear c4
  obtain ⟨y216, hy216⟩ : ∃ y_ : List (S95), y_ = (x0_1.set (x5_1 : Int).toNat (⟨x1_1, (rd_T95 x0_1 x5_1).f1, (rd_T95 x0_1 x5_1).f2, (rd_T95 x0_1 x5_1).f3, (rd_T95 x0_1 x5_1).f4⟩ : S95)) := ⟨_, rfl⟩
  replace H : ((some (y216.set (x5_1 : Int).toNat (⟨(rd_T95 y216 x5_1).f0, wrap64 (x1_1 + 1), (rd_T95 y216 x5_1).f2, (rd_T95 y216 x5_1).f3, (rd_T95 y216 x5_1).f4⟩ : S95) : List (S95))).bind fun y217 => ((some (y217.set (x5_1 : Int).toNat (⟨(rd_T95 y217 x5_1).f0, (rd_T95 y217 x5_1).f1, wrap64 ((wrap64 (x1_1 + 1)) + 1), (rd_T95 y217 x5_1).f3, (rd_T95 y217 x5_1).f4⟩ : S95) : List (S95))).bind fun y218 => ((some (y218.set (x5_1 : Int).toNat (⟨(rd_T95 y218 x5_1).f0, (rd_T95 y218 x5_1).f1, (rd_T95 y218 x5_1).f2, wrap64 ((wrap64 ((wrap64 (x1_1 + 1)) + 1)) + 1), (rd_T95 y218 x5_1).f4⟩ : S95) : List (S95))).bind fun y219 => (laws_markImportS.l0 k1 (y219.set (x5_1 : Int).toNat (⟨(rd_T95 y219 x5_1).f0, (rd_T95 y219 x5_1).f1, (rd_T95 y219 x5_1).f2, (rd_T95 y219 x5_1).f3, wrap64 ((wrap64 ((wrap64 ((wrap64 (x1_1 + 1)) + 1)) + 1)) + 1)⟩ : S95)) (wrap64 ((wrap64 ((wrap64 ((wrap64 ((wrap64 (x1_1 + 1)) + 1)) + 1)) + 1)) + 1)) (wrap64 (x5_1 + 1)))))) = some (r1, r2) := by (have H2_ := (Option.bind_some _ _).symm.trans H; rw [hy216]; with_reducible exact H2_)
  have Ny216 := aM hy216
  clear hy216
  obtain ⟨y217, hy217⟩ : ∃ y_ : List (S95), y_ = (y216.set (x5_1 : Int).toNat (⟨(rd_T95 y216 x5_1).f0, wrap64 (x1_1 + 1), (rd_T95 y216 x5_1).f2, (rd_T95 y216 x5_1).f3, (rd_T95 y216 x5_1).f4⟩ : S95)) := ⟨_, rfl⟩
  replace H : ((some (y217.set (x5_1 : Int).toNat (⟨(rd_T95 y217 x5_1).f0, (rd_T95 y217 x5_1).f1, wrap64 ((wrap64 (x1_1 + 1)) + 1), (rd_T95 y217 x5_1).f3, (rd_T95 y217 x5_1).f4⟩ : S95) : List (S95))).bind fun y218 => ((some (y218.set (x5_1 : Int).toNat (⟨(rd_T95 y218 x5_1).f0, (rd_T95 y218 x5_1).f1, (rd_T95 y218 x5_1).f2, wrap64 ((wrap64 ((wrap64 (x1_1 + 1)) + 1)) + 1), (rd_T95 y218 x5_1).f4⟩ : S95) : List (S95))).bind fun y219 => (laws_markImportS.l0 k1 (y219.set (x5_1 : Int).toNat (⟨(rd_T95 y219 x5_1).f0, (rd_T95 y219 x5_1).f1, (rd_T95 y219 x5_1).f2, (rd_T95 y219 x5_1).f3, wrap64 ((wrap64 ((wrap64 ((wrap64 (x1_1 + 1)) + 1)) + 1)) + 1)⟩ : S95)) (wrap64 ((wrap64 ((wrap64 ((wrap64 ((wrap64 (x1_1 + 1)) + 1)) + 1)) + 1)) + 1)) (wrap64 (x5_1 + 1))))) = some (r1, r2) := by (have H2_ := (Option.bind_some _ _).symm.trans H; rw [hy217]; with_reducible exact H2_)
  have Ny217 := aM hy217
  clear hy217
  obtain ⟨y218, hy218⟩ : ∃ y_ : List (S95), y_ = (y217.set (x5_1 : Int).toNat (⟨(rd_T95 y217 x5_1).f0, (rd_T95 y217 x5_1).f1, wrap64 ((wrap64 (x1_1 + 1)) + 1), (rd_T95 y217 x5_1).f3, (rd_T95 y217 x5_1).f4⟩ : S95)) := ⟨_, rfl⟩
  replace H : ((some (y218.set (x5_1 : Int).toNat (⟨(rd_T95 y218 x5_1).f0, (rd_T95 y218 x5_1).f1, (rd_T95 y218 x5_1).f2, wrap64 ((wrap64 ((wrap64 (x1_1 + 1)) + 1)) + 1), (rd_T95 y218 x5_1).f4⟩ : S95) : List (S95))).bind fun y219 => (laws_markImportS.l0 k1 (y219.set (x5_1 : Int).toNat (⟨(rd_T95 y219 x5_1).f0, (rd_T95 y219 x5_1).f1, (rd_T95 y219 x5_1).f2, (rd_T95 y219 x5_1).f3, wrap64 ((wrap64 ((wrap64 ((wrap64 (x1_1 + 1)) + 1)) + 1)) + 1)⟩ : S95)) (wrap64 ((wrap64 ((wrap64 ((wrap64 ((wrap64 (x1_1 + 1)) + 1)) + 1)) + 1)) + 1)) (wrap64 (x5_1 + 1)))) = some (r1, r2) := by (have H2_ := (Option.bind_some _ _).symm.trans H; rw [hy218]; with_reducible exact H2_)
  have Ny218 := aM hy218
  clear hy218
  obtain ⟨y219, hy219⟩ : ∃ y_ : List (S95), y_ = (y218.set (x5_1 : Int).toNat (⟨(rd_T95 y218 x5_1).f0, (rd_T95 y218 x5_1).f1, (rd_T95 y218 x5_1).f2, wrap64 ((wrap64 ((wrap64 (x1_1 + 1)) + 1)) + 1), (rd_T95 y218 x5_1).f4⟩ : S95)) := ⟨_, rfl⟩
  replace H : (laws_markImportS.l0 k1 (y219.set (x5_1 : Int).toNat (⟨(rd_T95 y219 x5_1).f0, (rd_T95 y219 x5_1).f1, (rd_T95 y219 x5_1).f2, (rd_T95 y219 x5_1).f3, wrap64 ((wrap64 ((wrap64 ((wrap64 (x1_1 + 1)) + 1)) + 1)) + 1)⟩ : S95)) (wrap64 ((wrap64 ((wrap64 ((wrap64 ((wrap64 (x1_1 + 1)) + 1)) + 1)) + 1)) + 1)) (wrap64 (x5_1 + 1))) = some (r1, r2) := by (have H2_ := (Option.bind_some _ _).symm.trans H; rw [hy219]; with_reducible exact H2_)
  have Ny219 := aM hy219
  clear hy219
  obtain ⟨y220, hy220⟩ : ∃ y_ : List (S95), y_ = (y219.set (x5_1 : Int).toNat (⟨(rd_T95 y219 x5_1).f0, (rd_T95 y219 x5_1).f1, (rd_T95 y219 x5_1).f2, (rd_T95 y219 x5_1).f3, wrap64 ((wrap64 ((wrap64 ((wrap64 (x1_1 + 1)) + 1)) + 1)) + 1)⟩ : S95)) := ⟨_, rfl⟩
  replace H : (laws_markImportS.l0 k1 y220 (wrap64 ((wrap64 ((wrap64 ((wrap64 ((wrap64 (x1_1 + 1)) + 1)) + 1)) + 1)) + 1)) (wrap64 (x5_1 + 1))) = some (r1, r2) := by (rw [hy220]; with_reducible exact H)
  have Ny220 := aM hy220
  clear hy220
  have H' := aM H
  clear H
  obtain ⟨Ao10, co10, eo10⟩ := Kd.R_slice HO_0.out
  subst eo10
  have p5 : 0 ≤ (x5_1 : Int) := oD ‹_›
  have q5 : (x5_1 : Int) < ((x0_1.length : Int) : Int) := oD ‹_›
  obtain ⟨go5, co5, eo5, gb5, gl5, cl5, HG5⟩ := Kd.R_form HO_0.out (by omega)
  (cases eo5)
  have GB5 := aM gb5
  have GG5 := aM HG5
  clear gb5 gl5 HG5
  have HMgo5 := aM (show (P0_ go5 ∨ w.heap.size ≤ go5) from (HO_0.out.1 _ rfl))
  obtain ⟨ce5, hcl5, hM5, hcc5, hfr5⟩ := Kd.R_elem HO_0.out z95 (x5_1 : Int) p5 q5
  obtain rfl := k95_openM hM5
  have hx5_0 : wr.cell? ⟨go5, (x5_1 : Int).toNat * 5, none⟩ = some (.int .i64 ((rd_T95 x0_1 x5_1).f0)) := hcc5 0 _ rfl
  have hx5_1 : wr.cell? ⟨go5, (x5_1 : Int).toNat * 5 + 1, none⟩ = some (.int .i64 ((rd_T95 x0_1 x5_1).f1)) := hcc5 1 _ rfl
  have hx5_2 : wr.cell? ⟨go5, (x5_1 : Int).toNat * 5 + 2, none⟩ = some (.int .i64 ((rd_T95 x0_1 x5_1).f2)) := hcc5 2 _ rfl
  have hx5_3 : wr.cell? ⟨go5, (x5_1 : Int).toNat * 5 + 3, none⟩ = some (.int .i64 ((rd_T95 x0_1 x5_1).f3)) := hcc5 3 _ rfl
  have hx5_4 : wr.cell? ⟨go5, (x5_1 : Int).toNat * 5 + 4, none⟩ = some (.int .i64 ((rd_T95 x0_1 x5_1).f4)) := hcc5 4 _ rfl
  have hf5_0 : wr.frozen? ⟨go5, (x5_1 : Int).toNat * 5, none⟩ = false := hfr5 0
  have hf5_1 : wr.frozen? ⟨go5, (x5_1 : Int).toNat * 5 + 1, none⟩ = false := hfr5 1
  have hf5_2 : wr.frozen? ⟨go5, (x5_1 : Int).toNat * 5 + 2, none⟩ = false := hfr5 2
  have hf5_3 : wr.frozen? ⟨go5, (x5_1 : Int).toNat * 5 + 3, none⟩ = false := hfr5 3
  have hf5_4 : wr.frozen? ⟨go5, (x5_1 : Int).toNat * 5 + 4, none⟩ = false := hfr5 4
  clear hcl5 hcc5 hfr5; (try clear hM5)
  replace p5 := eq_true p5
  replace q5 := eq_true q5
  have HX11 := aM (show Kd.R k95 95 wr w0.heap.size (fun k_ => (P0_ k_ ∨ w.heap.size ≤ k_)) (.slice (some ⟨go5, 0, none⟩) x0_1.length co10) x0_1 from HO_0.out)
  obtain ⟨ce11, hcl11, hM11, hcc11, hfr11⟩ := Kd.R_elem HX11.out z95 (x5_1 : Int) (oD ‹_›) (by have h_ : (x5_1 : Int) < ((x0_1.length : Int) : Int) := oD ‹_›; exact h_)
  obtain rfl := k95_openM hM11
  have HP11 := Kd.R_seg HX11.out (x5_1 : Int) (oD ‹_›) (by have h_ : (x5_1 : Int) < ((x0_1.length : Int) : Int) := oD ‹_›; exact h_) (seg := [.int .i64 x1_1]) (j := 0) hcl11 hcc11 (show 1 ≤ 5 from by decide) (x' := (⟨x1_1, (rd_T95 x0_1 x5_1).f1, (rd_T95 x0_1 x5_1).f2, (rd_T95 x0_1 x5_1).f3, (rd_T95 x0_1 x5_1).f4⟩ : S95)) (k95_mkM _ _ _ (⟨x1_1, (rd_T95 x0_1 x5_1).f1, (rd_T95 x0_1 x5_1).f2, (rd_T95 x0_1 x5_1).f3, (rd_T95 x0_1 x5_1).f4⟩ : S95) ) (fun _ hk => hk)
  have hx11_0 := hcc11 0 _ rfl
  (try simp only [show (k95).sz = 5 from rfl, Nat.mul_one, Nat.add_zero] at hx11_0)
  have hf11_0 := hfr11 0
  (try simp only [show (k95).sz = 5 from rfl, Nat.mul_one, Nat.add_zero] at hf11_0)
  clear hcl11 hcc11 hfr11; (try clear hM11)
  go_wp2_with (first | ((with_reducible refine gate_store (t := 3) (p := 16) rfl ?_); refine store_event (t := 3) (p := 16) (v := ?vo_w12) (w1 := (wr.setCell ⟨go5, (x5_1 : Int).toNat * 5, none⟩ (.int .i64 x1_1))) ?hg ?ho ?hn ?hr ?_; (case ho => rfl); (case hg => rfl); (case hn => rfl); (case hr => (go_simp; done)); intro w12 hw; have hg : wr.grownBy w12 (some go5) := (by rw [hw]; exact HP11.2); have hp_ : Kd.R k95 95 w12 w0.heap.size (fun k_ => (P0_ k_ ∨ w.heap.size ≤ k_)) (.slice (some ⟨go5, 0, none⟩) x0_1.length co10) y216 := (by rw [hw, Ny216.out]; exact HP11.1); clear HP11; replace HB := aM ((by rw [hw]; exact below_set (HB.out) GB5.out : Below w0.heap.size w0 w12)); replace HK := aM (Kept.of_grown (S := (fun k_ => P0_ k_)) hg HK.out (fun k_ e_ => (HO_0.out.1 k_ e_))); replace HO_0 := aM (hp_); clear hg hw hp_; have p6 : 0 ≤ (x5_1 : Int) := oD ‹_›; have q6 : (x5_1 : Int) < ((x0_1.length : Int) : Int) := oD ‹_›; obtain ⟨ce6, hcl6, hM6, hcc6, hfr6⟩ := Kd.R_elem HO_0.out z95 (x5_1 : Int) p6 q6; obtain rfl := k95_openM hM6; have hx6_0 : w12.cell? ⟨go5, (x5_1 : Int).toNat * 5, none⟩ = some (.int .i64 ((rd_T95 y216 x5_1).f0)) := hcc6 0 _ rfl; have hx6_1 : w12.cell? ⟨go5, (x5_1 : Int).toNat * 5 + 1, none⟩ = some (.int .i64 ((rd_T95 y216 x5_1).f1)) := hcc6 1 _ rfl; have hx6_2 : w12.cell? ⟨go5, (x5_1 : Int).toNat * 5 + 2, none⟩ = some (.int .i64 ((rd_T95 y216 x5_1).f2)) := hcc6 2 _ rfl; have hx6_3 : w12.cell? ⟨go5, (x5_1 : Int).toNat * 5 + 3, none⟩ = some (.int .i64 ((rd_T95 y216 x5_1).f3)) := hcc6 3 _ rfl; have hx6_4 : w12.cell? ⟨go5, (x5_1 : Int).toNat * 5 + 4, none⟩ = some (.int .i64 ((rd_T95 y216 x5_1).f4)) := hcc6 4 _ rfl; have hf6_0 : w12.frozen? ⟨go5, (x5_1 : Int).toNat * 5, none⟩ = false := hfr6 0; have hf6_1 : w12.frozen? ⟨go5, (x5_1 : Int).toNat * 5 + 1, none⟩ = false := hfr6 1; have hf6_2 : w12.frozen? ⟨go5, (x5_1 : Int).toNat * 5 + 2, none⟩ = false := hfr6 2; have hf6_3 : w12.frozen? ⟨go5, (x5_1 : Int).toNat * 5 + 3, none⟩ = false := hfr6 3; have hf6_4 : w12.frozen? ⟨go5, (x5_1 : Int).toNat * 5 + 4, none⟩ = false := hfr6 4; clear hcl6 hcc6 hfr6; (try clear hM6); replace p6 := eq_true p6; replace q6 := eq_true q6; have HX13 := aM (show Kd.R k95 95 w12 w0.heap.size (fun k_ => (P0_ k_ ∨ w.heap.size ≤ k_)) (.slice (some ⟨go5, 0, none⟩) x0_1.length co10) y216 from HO_0.out); obtain ⟨ce13, hcl13, hM13, hcc13, hfr13⟩ := Kd.R_elem HX13.out z95 (x5_1 : Int) (oD ‹_›) (by have h_ : (x5_1 : Int) < ((x0_1.length : Int) : Int) := oD ‹_›; exact h_); obtain rfl := k95_openM hM13; have HP13 := Kd.R_seg HX13.out (x5_1 : Int) (oD ‹_›) (by have h_ : (x5_1 : Int) < ((x0_1.length : Int) : Int) := oD ‹_›; exact h_) (seg := [.int .i64 (wrap64 (x1_1 + 1))]) (j := 1) hcl13 hcc13 (show 2 ≤ 5 from by decide) (x' := (⟨(rd_T95 y216 x5_1).f0, wrap64 (x1_1 + 1), (rd_T95 y216 x5_1).f2, (rd_T95 y216 x5_1).f3, (rd_T95 y216 x5_1).f4⟩ : S95)) (k95_mkM _ _ _ (⟨(rd_T95 y216 x5_1).f0, wrap64 (x1_1 + 1), (rd_T95 y216 x5_1).f2, (rd_T95 y216 x5_1).f3, (rd_T95 y216 x5_1).f4⟩ : S95) ) (fun _ hk => hk); have hx13_1 := hcc13 1 _ rfl; (try simp only [show (k95).sz = 5 from rfl, Nat.mul_one, Nat.add_zero] at hx13_1); have hf13_1 := hfr13 1; (try simp only [show (k95).sz = 5 from rfl, Nat.mul_one, Nat.add_zero] at hf13_1); clear hcl13 hcc13 hfr13; (try clear hM13)) | ((with_reducible refine gate_store (t := 3) (p := 23) rfl ?_); refine store_event (t := 3) (p := 23) (v := ?vo_w14) (w1 := (w12.setCell ⟨go5, (x5_1 : Int).toNat * 5 + 1, none⟩ (.int .i64 (wrap64 (x1_1 + 1))))) ?hg ?ho ?hn ?hr ?_; (case ho => rfl); (case hg => rfl); (case hn => rfl); (case hr => (go_simp; done)); intro w14 hw; have hg : w12.grownBy w14 (some go5) := (by rw [hw]; exact HP13.2); have hp_ : Kd.R k95 95 w14 w0.heap.size (fun k_ => (P0_ k_ ∨ w.heap.size ≤ k_)) (.slice (some ⟨go5, 0, none⟩) x0_1.length co10) y217 := (by rw [hw, Ny217.out]; exact HP13.1); clear HP13; replace HB := aM ((by rw [hw]; exact below_set (HB.out) GB5.out : Below w0.heap.size w0 w14)); replace HK := aM (Kept.of_grown (S := (fun k_ => P0_ k_)) hg HK.out (fun k_ e_ => (HO_0.out.1 k_ e_))); replace HO_0 := aM (hp_); clear hg hw hp_; have p7 : 0 ≤ (x5_1 : Int) := oD ‹_›; have q7 : (x5_1 : Int) < ((x0_1.length : Int) : Int) := oD ‹_›; obtain ⟨ce7, hcl7, hM7, hcc7, hfr7⟩ := Kd.R_elem HO_0.out z95 (x5_1 : Int) p7 q7; obtain rfl := k95_openM hM7; have hx7_0 : w14.cell? ⟨go5, (x5_1 : Int).toNat * 5, none⟩ = some (.int .i64 ((rd_T95 y217 x5_1).f0)) := hcc7 0 _ rfl; have hx7_1 : w14.cell? ⟨go5, (x5_1 : Int).toNat * 5 + 1, none⟩ = some (.int .i64 ((rd_T95 y217 x5_1).f1)) := hcc7 1 _ rfl; have hx7_2 : w14.cell? ⟨go5, (x5_1 : Int).toNat * 5 + 2, none⟩ = some (.int .i64 ((rd_T95 y217 x5_1).f2)) := hcc7 2 _ rfl; have hx7_3 : w14.cell? ⟨go5, (x5_1 : Int).toNat * 5 + 3, none⟩ = some (.int .i64 ((rd_T95 y217 x5_1).f3)) := hcc7 3 _ rfl; have hx7_4 : w14.cell? ⟨go5, (x5_1 : Int).toNat * 5 + 4, none⟩ = some (.int .i64 ((rd_T95 y217 x5_1).f4)) := hcc7 4 _ rfl; have hf7_0 : w14.frozen? ⟨go5, (x5_1 : Int).toNat * 5, none⟩ = false := hfr7 0; have hf7_1 : w14.frozen? ⟨go5, (x5_1 : Int).toNat * 5 + 1, none⟩ = false := hfr7 1; have hf7_2 : w14.frozen? ⟨go5, (x5_1 : Int).toNat * 5 + 2, none⟩ = false := hfr7 2; have hf7_3 : w14.frozen? ⟨go5, (x5_1 : Int).toNat * 5 + 3, none⟩ = false := hfr7 3; have hf7_4 : w14.frozen? ⟨go5, (x5_1 : Int).toNat * 5 + 4, none⟩ = false := hfr7 4; clear hcl7 hcc7 hfr7; (try clear hM7); replace p7 := eq_true p7; replace q7 := eq_true q7; have HX15 := aM (show Kd.R k95 95 w14 w0.heap.size (fun k_ => (P0_ k_ ∨ w.heap.size ≤ k_)) (.slice (some ⟨go5, 0, none⟩) x0_1.length co10) y217 from HO_0.out); obtain ⟨ce15, hcl15, hM15, hcc15, hfr15⟩ := Kd.R_elem HX15.out z95 (x5_1 : Int) (oD ‹_›) (by have h_ : (x5_1 : Int) < ((x0_1.length : Int) : Int) := oD ‹_›; exact h_); obtain rfl := k95_openM hM15; have HP15 := Kd.R_seg HX15.out (x5_1 : Int) (oD ‹_›) (by have h_ : (x5_1 : Int) < ((x0_1.length : Int) : Int) := oD ‹_›; exact h_) (seg := [.int .i64 (wrap64 ((wrap64 (x1_1 + 1)) + 1))]) (j := 2) hcl15 hcc15 (show 3 ≤ 5 from by decide) (x' := (⟨(rd_T95 y217 x5_1).f0, (rd_T95 y217 x5_1).f1, wrap64 ((wrap64 (x1_1 + 1)) + 1), (rd_T95 y217 x5_1).f3, (rd_T95 y217 x5_1).f4⟩ : S95)) (k95_mkM _ _ _ (⟨(rd_T95 y217 x5_1).f0, (rd_T95 y217 x5_1).f1, wrap64 ((wrap64 (x1_1 + 1)) + 1), (rd_T95 y217 x5_1).f3, (rd_T95 y217 x5_1).f4⟩ : S95) ) (fun _ hk => hk); have hx15_2 := hcc15 2 _ rfl; (try simp only [show (k95).sz = 5 from rfl, Nat.mul_one, Nat.add_zero] at hx15_2); have hf15_2 := hfr15 2; (try simp only [show (k95).sz = 5 from rfl, Nat.mul_one, Nat.add_zero] at hf15_2); clear hcl15 hcc15 hfr15; (try clear hM15)) | ((with_reducible refine gate_store (t := 3) (p := 30) rfl ?_); refine store_event (t := 3) (p := 30) (v := ?vo_w16) (w1 := (w14.setCell ⟨go5, (x5_1 : Int).toNat * 5 + 2, none⟩ (.int .i64 (wrap64 ((wrap64 (x1_1 + 1)) + 1))))) ?hg ?ho ?hn ?hr ?_; (case ho => rfl); (case hg => rfl); (case hn => rfl); (case hr => (go_simp; done)); intro w16 hw; have hg : w14.grownBy w16 (some go5) := (by rw [hw]; exact HP15.2); have hp_ : Kd.R k95 95 w16 w0.heap.size (fun k_ => (P0_ k_ ∨ w.heap.size ≤ k_)) (.slice (some ⟨go5, 0, none⟩) x0_1.length co10) y218 := (by rw [hw, Ny218.out]; exact HP15.1); clear HP15; replace HB := aM ((by rw [hw]; exact below_set (HB.out) GB5.out : Below w0.heap.size w0 w16)); replace HK := aM (Kept.of_grown (S := (fun k_ => P0_ k_)) hg HK.out (fun k_ e_ => (HO_0.out.1 k_ e_))); replace HO_0 := aM (hp_); clear hg hw hp_; have p8 : 0 ≤ (x5_1 : Int) := oD ‹_›; have q8 : (x5_1 : Int) < ((x0_1.length : Int) : Int) := oD ‹_›; obtain ⟨ce8, hcl8, hM8, hcc8, hfr8⟩ := Kd.R_elem HO_0.out z95 (x5_1 : Int) p8 q8; obtain rfl := k95_openM hM8; have hx8_0 : w16.cell? ⟨go5, (x5_1 : Int).toNat * 5, none⟩ = some (.int .i64 ((rd_T95 y218 x5_1).f0)) := hcc8 0 _ rfl; have hx8_1 : w16.cell? ⟨go5, (x5_1 : Int).toNat * 5 + 1, none⟩ = some (.int .i64 ((rd_T95 y218 x5_1).f1)) := hcc8 1 _ rfl; have hx8_2 : w16.cell? ⟨go5, (x5_1 : Int).toNat * 5 + 2, none⟩ = some (.int .i64 ((rd_T95 y218 x5_1).f2)) := hcc8 2 _ rfl; have hx8_3 : w16.cell? ⟨go5, (x5_1 : Int).toNat * 5 + 3, none⟩ = some (.int .i64 ((rd_T95 y218 x5_1).f3)) := hcc8 3 _ rfl; have hx8_4 : w16.cell? ⟨go5, (x5_1 : Int).toNat * 5 + 4, none⟩ = some (.int .i64 ((rd_T95 y218 x5_1).f4)) := hcc8 4 _ rfl; have hf8_0 : w16.frozen? ⟨go5, (x5_1 : Int).toNat * 5, none⟩ = false := hfr8 0; have hf8_1 : w16.frozen? ⟨go5, (x5_1 : Int).toNat * 5 + 1, none⟩ = false := hfr8 1; have hf8_2 : w16.frozen? ⟨go5, (x5_1 : Int).toNat * 5 + 2, none⟩ = false := hfr8 2; have hf8_3 : w16.frozen? ⟨go5, (x5_1 : Int).toNat * 5 + 3, none⟩ = false := hfr8 3; have hf8_4 : w16.frozen? ⟨go5, (x5_1 : Int).toNat * 5 + 4, none⟩ = false := hfr8 4; clear hcl8 hcc8 hfr8; (try clear hM8); replace p8 := eq_true p8; replace q8 := eq_true q8; have HX17 := aM (show Kd.R k95 95 w16 w0.heap.size (fun k_ => (P0_ k_ ∨ w.heap.size ≤ k_)) (.slice (some ⟨go5, 0, none⟩) x0_1.length co10) y218 from HO_0.out); obtain ⟨ce17, hcl17, hM17, hcc17, hfr17⟩ := Kd.R_elem HX17.out z95 (x5_1 : Int) (oD ‹_›) (by have h_ : (x5_1 : Int) < ((x0_1.length : Int) : Int) := oD ‹_›; exact h_); obtain rfl := k95_openM hM17; have HP17 := Kd.R_seg HX17.out (x5_1 : Int) (oD ‹_›) (by have h_ : (x5_1 : Int) < ((x0_1.length : Int) : Int) := oD ‹_›; exact h_) (seg := [.int .i64 (wrap64 ((wrap64 ((wrap64 (x1_1 + 1)) + 1)) + 1))]) (j := 3) hcl17 hcc17 (show 4 ≤ 5 from by decide) (x' := (⟨(rd_T95 y218 x5_1).f0, (rd_T95 y218 x5_1).f1, (rd_T95 y218 x5_1).f2, wrap64 ((wrap64 ((wrap64 (x1_1 + 1)) + 1)) + 1), (rd_T95 y218 x5_1).f4⟩ : S95)) (k95_mkM _ _ _ (⟨(rd_T95 y218 x5_1).f0, (rd_T95 y218 x5_1).f1, (rd_T95 y218 x5_1).f2, wrap64 ((wrap64 ((wrap64 (x1_1 + 1)) + 1)) + 1), (rd_T95 y218 x5_1).f4⟩ : S95) ) (fun _ hk => hk); have hx17_3 := hcc17 3 _ rfl; (try simp only [show (k95).sz = 5 from rfl, Nat.mul_one, Nat.add_zero] at hx17_3); have hf17_3 := hfr17 3; (try simp only [show (k95).sz = 5 from rfl, Nat.mul_one, Nat.add_zero] at hf17_3); clear hcl17 hcc17 hfr17; (try clear hM17)) | ((with_reducible refine gate_store (t := 3) (p := 37) rfl ?_); refine store_event (t := 3) (p := 37) (v := ?vo_w18) (w1 := (w16.setCell ⟨go5, (x5_1 : Int).toNat * 5 + 3, none⟩ (.int .i64 (wrap64 ((wrap64 ((wrap64 (x1_1 + 1)) + 1)) + 1))))) ?hg ?ho ?hn ?hr ?_; (case ho => rfl); (case hg => rfl); (case hn => rfl); (case hr => (go_simp; done)); intro w18 hw; have hg : w16.grownBy w18 (some go5) := (by rw [hw]; exact HP17.2); have hp_ : Kd.R k95 95 w18 w0.heap.size (fun k_ => (P0_ k_ ∨ w.heap.size ≤ k_)) (.slice (some ⟨go5, 0, none⟩) x0_1.length co10) y219 := (by rw [hw, Ny219.out]; exact HP17.1); clear HP17; replace HB := aM ((by rw [hw]; exact below_set (HB.out) GB5.out : Below w0.heap.size w0 w18)); replace HK := aM (Kept.of_grown (S := (fun k_ => P0_ k_)) hg HK.out (fun k_ e_ => (HO_0.out.1 k_ e_))); replace HO_0 := aM (hp_); clear hg hw hp_; have p9 : 0 ≤ (x5_1 : Int) := oD ‹_›; have q9 : (x5_1 : Int) < ((x0_1.length : Int) : Int) := oD ‹_›; obtain ⟨ce9, hcl9, hM9, hcc9, hfr9⟩ := Kd.R_elem HO_0.out z95 (x5_1 : Int) p9 q9; obtain rfl := k95_openM hM9; have hx9_0 : w18.cell? ⟨go5, (x5_1 : Int).toNat * 5, none⟩ = some (.int .i64 ((rd_T95 y219 x5_1).f0)) := hcc9 0 _ rfl; have hx9_1 : w18.cell? ⟨go5, (x5_1 : Int).toNat * 5 + 1, none⟩ = some (.int .i64 ((rd_T95 y219 x5_1).f1)) := hcc9 1 _ rfl; have hx9_2 : w18.cell? ⟨go5, (x5_1 : Int).toNat * 5 + 2, none⟩ = some (.int .i64 ((rd_T95 y219 x5_1).f2)) := hcc9 2 _ rfl; have hx9_3 : w18.cell? ⟨go5, (x5_1 : Int).toNat * 5 + 3, none⟩ = some (.int .i64 ((rd_T95 y219 x5_1).f3)) := hcc9 3 _ rfl; have hx9_4 : w18.cell? ⟨go5, (x5_1 : Int).toNat * 5 + 4, none⟩ = some (.int .i64 ((rd_T95 y219 x5_1).f4)) := hcc9 4 _ rfl; have hf9_0 : w18.frozen? ⟨go5, (x5_1 : Int).toNat * 5, none⟩ = false := hfr9 0; have hf9_1 : w18.frozen? ⟨go5, (x5_1 : Int).toNat * 5 + 1, none⟩ = false := hfr9 1; have hf9_2 : w18.frozen? ⟨go5, (x5_1 : Int).toNat * 5 + 2, none⟩ = false := hfr9 2; have hf9_3 : w18.frozen? ⟨go5, (x5_1 : Int).toNat * 5 + 3, none⟩ = false := hfr9 3; have hf9_4 : w18.frozen? ⟨go5, (x5_1 : Int).toNat * 5 + 4, none⟩ = false := hfr9 4; clear hcl9 hcc9 hfr9; (try clear hM9); replace p9 := eq_true p9; replace q9 := eq_true q9; have HX19 := aM (show Kd.R k95 95 w18 w0.heap.size (fun k_ => (P0_ k_ ∨ w.heap.size ≤ k_)) (.slice (some ⟨go5, 0, none⟩) x0_1.length co10) y219 from HO_0.out); obtain ⟨ce19, hcl19, hM19, hcc19, hfr19⟩ := Kd.R_elem HX19.out z95 (x5_1 : Int) (oD ‹_›) (by have h_ : (x5_1 : Int) < ((x0_1.length : Int) : Int) := oD ‹_›; exact h_); obtain rfl := k95_openM hM19; have HP19 := Kd.R_seg HX19.out (x5_1 : Int) (oD ‹_›) (by have h_ : (x5_1 : Int) < ((x0_1.length : Int) : Int) := oD ‹_›; exact h_) (seg := [.int .i64 (wrap64 ((wrap64 ((wrap64 ((wrap64 (x1_1 + 1)) + 1)) + 1)) + 1))]) (j := 4) hcl19 hcc19 (show 5 ≤ 5 from by decide) (x' := (⟨(rd_T95 y219 x5_1).f0, (rd_T95 y219 x5_1).f1, (rd_T95 y219 x5_1).f2, (rd_T95 y219 x5_1).f3, wrap64 ((wrap64 ((wrap64 ((wrap64 (x1_1 + 1)) + 1)) + 1)) + 1)⟩ : S95)) (k95_mkM _ _ _ (⟨(rd_T95 y219 x5_1).f0, (rd_T95 y219 x5_1).f1, (rd_T95 y219 x5_1).f2, (rd_T95 y219 x5_1).f3, wrap64 ((wrap64 ((wrap64 ((wrap64 (x1_1 + 1)) + 1)) + 1)) + 1)⟩ : S95) ) (fun _ hk => hk); have hx19_4 := hcc19 4 _ rfl; (try simp only [show (k95).sz = 5 from rfl, Nat.mul_one, Nat.add_zero] at hx19_4); have hf19_4 := hfr19 4; (try simp only [show (k95).sz = 5 from rfl, Nat.mul_one, Nat.add_zero] at hf19_4); clear hcl19 hcc19 hfr19; (try clear hM19)) | ((with_reducible refine gate_store (t := 3) (p := 44) rfl ?_); refine store_event (t := 3) (p := 44) (v := ?vo_w20) (w1 := (w18.setCell ⟨go5, (x5_1 : Int).toNat * 5 + 4, none⟩ (.int .i64 (wrap64 ((wrap64 ((wrap64 ((wrap64 (x1_1 + 1)) + 1)) + 1)) + 1))))) ?hg ?ho ?hn ?hr ?_; (case ho => rfl); (case hg => rfl); (case hn => rfl); (case hr => (go_simp; done)); intro w20 hw; have hg : w18.grownBy w20 (some go5) := (by rw [hw]; exact HP19.2); have hp_ : Kd.R k95 95 w20 w0.heap.size (fun k_ => (P0_ k_ ∨ w.heap.size ≤ k_)) (.slice (some ⟨go5, 0, none⟩) x0_1.length co10) y220 := (by rw [hw, Ny220.out]; exact HP19.1); clear HP19; replace HB := aM ((by rw [hw]; exact below_set (HB.out) GB5.out : Below w0.heap.size w0 w20)); replace HK := aM (Kept.of_grown (S := (fun k_ => P0_ k_)) hg HK.out (fun k_ e_ => (HO_0.out.1 k_ e_))); replace HO_0 := aM (hp_); clear hg hw hp_))
  go_roundg k1
  case measure => have := HK1.out; omega
  case rel => exact ⟨(y220), (wrap64 ((wrap64 ((wrap64 ((wrap64 ((wrap64 (x1_1 + 1)) + 1)) + 1)) + 1)) + 1)), (wrap64 (x5_1 + 1)), (by rfl), (by rfl), H', ⟨by have := HK1.out; omega⟩, ⟨by exact HO_0.out⟩, ⟨by repeat ((with_reducible exact HK.out))⟩, ⟨by repeat ((with_reducible exact HB.out))⟩⟩
end Go.Proofs.Ytgibacfgjmdjdaa.PFnExactIsStable
end
