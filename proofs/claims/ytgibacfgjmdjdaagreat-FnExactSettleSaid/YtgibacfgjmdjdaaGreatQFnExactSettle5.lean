/- FnExactSettle: for every input the law returns true. The texts that this program's session printed and proved for it, those that the proof uses, laid together. Conditions: the form's own reach alone. -/
import Derived.Test.YtgibacfgjmdjdaaGreatQFnExactSettle4
section
section
namespace Go.Proofs.YtgibacfgjmdjdaaGreat.PFnExactIsStable
open Go.RowKit Go.Proofs.YtgibacfgjmdjdaaGreatW.PrintWords Go.Proofs.YtgibacfgjmdjdaaGreatW.PrintLast Go.Proofs.YtgibacfgjmdjdaaGreatW.PrintMore
attribute [local go_sem] max2_int min2_int max_two min_two max_three min_three max_four min_four   -- for this text's walks alone
set_option linter.unusedVariables false
set_option maxHeartbeats 8000000
set_option maxRecDepth 100000
set_option linter.unusedSimpArgs false
def slices_Index_int_int.l0 : Nat → List Int → Int → Int → Int → Option (Int)
 | 0, _, _, _, _ => none
 | k + 1, x0, x1, x7, x8 => if x8 < x7 then (if 0 ≤ x8 then (if x8 < (x0.length : Int) then (if x1 = (rd x0 x8) then (some x8) else (slices_Index_int_int.l0 k x0 x1 x7 (wrap64 (x8 + 1)))) else (none)) else (none)) else (some (-1))
def slices_Index_int_int.f (k : Nat) (l0 : List Int) (a1 : Int) : Option (Int) := slices_Index_int_int.l0 k l0 a1 (l0.length : Int) 0
theorem slices_Index_int_int.calls (k A0 c0 l0 a1 r w) (hr0 : Kd.C (Kd.int .i64) w A0 l0.length l0) (hc0 : l0.length ≤ c0) (h : slices_Index_int_int.f k l0 a1 = some r) :
  Calls Tryz.prog 100 #[.slice A0 l0.length c0, .int .i64 a1] w fun e w' => e = .returned (.int .i64 r) ∧ Drawn0 w w' := by
 have HR0 := aM hr0
 have HC0 := aM hc0
 clear hr0 hc0
 have H : (slices_Index_int_int.l0 k l0 a1 (l0.length : Int) 0) = some r := h
 clear h
 have H' := aM H
 clear H
 go_enter Tryz.func100, Tryz.ntmps100
 go_wp2
 go_loopg [8] k (fun kq v8 w' => ∃ (x8_1 : Int), v8 = .int .i64 x8_1 ∧ Aside0 (slices_Index_int_int.l0 kq l0 a1 (l0.length : Int) x8_1 = some r) ∧ Aside0 (kq ≤ k) ∧ Drawn0 w w')
 case atStart => exact ⟨(0), (by rfl), H', ⟨Nat.le_refl _⟩, by repeat (exact Drawn0.refl _)⟩
 clear H'
 obtain ⟨x8_1, rfl, HA, HK1, ⟨m1, rfl⟩⟩ := hrel
 cases gk with
 | zero => exact absurd HA.out (by simp [slices_Index_int_int.l0])
 | succ k1 =>
  obtain ⟨H⟩ := HA
  simp only [slices_Index_int_int.l0] at H
  by_cases c3 : x8_1 < (l0.length : Int)
  rotate_left
  ·rw [if_neg c3] at H
   have c3b0 := decide_eq_false c3
   clear c3
   obtain rfl := Option.some.inj H
   go_wp2
   go_ret
   exact ⟨by rfl, by repeat (first | exact Drawn0.refl _ | apply Drawn0.step)⟩
  rw [if_pos c3] at H
  have c3b0 := decide_eq_true c3
  clear c3
  obtain ⟨c4b0, H⟩ := iD H
  obtain ⟨c5b0, H⟩ := iD H
  by_cases c6 : a1 = (rd l0 x8_1)
  ·rw [if_pos c6] at H
   have c6b0 := beq_iff_eq.mpr c6
   have c6b1 : (a1 != (rd l0 x8_1)) = false := bne_eq_false_iff_eq.mpr c6
   clear c6
   obtain rfl := Option.some.inj H
   have p332 : 0 ≤ (x8_1 : Int) := oD ‹_›
   have q332 : x8_1 < (l0.length : Int) := oD ‹_›
   obtain ⟨ad332, e332, hx332_0⟩ := Kd.at_int HR0.out x8_1 p332 q332
   cases e332
   replace p332 := eq_true p332
   replace q332 := eq_true q332
   go_wp2
   go_ret
   exact ⟨by rfl, by repeat (first | exact Drawn0.refl _ | apply Drawn0.step)⟩
  rw [if_neg c6] at H
  have c6b0 := beq_eq_false_iff_ne.mpr c6
  have c6b1 : (a1 != (rd l0 x8_1)) = true := bne_iff_ne.mpr c6
  have H' := aM H
  clear H
  have p332 : 0 ≤ (x8_1 : Int) := oD ‹_›
  have q332 : x8_1 < (l0.length : Int) := oD ‹_›
  obtain ⟨ad332, e332, hx332_0⟩ := Kd.at_int HR0.out x8_1 p332 q332
  cases e332
  replace p332 := eq_true p332
  replace q332 := eq_true q332
  go_wp2
  go_roundg k1
  case measure => have := HK1.out; omega
  case rel => exact ⟨(wrap64 (x8_1 + 1)), (by rfl), H', ⟨by have := HK1.out; omega⟩, by repeat (first | exact Drawn0.refl _ | apply Drawn0.step)⟩
def slices_Contains_int_int.f (k : Nat) (l0 : List Int) (a1 : Int) : Option (Bool) := (slices_Index_int_int.f k l0 a1).bind fun t333 => (some (decide (t333 ≥ 0)))
theorem slices_Contains_int_int.calls (k A0 c0 l0 a1 r w) (hr0 : Kd.C (Kd.int .i64) w A0 l0.length l0) (hc0 : l0.length ≤ c0) (h : slices_Contains_int_int.f k l0 a1 = some r) :
  Calls Tryz.prog 99 #[.slice A0 l0.length c0, .int .i64 a1] w fun e w' => e = .returned (.bool r) ∧ Drawn0 w w' := by
 have HR0 := aM hr0
 have HC0 := aM hc0
 clear hr0 hc0
 have H : ((slices_Index_int_int.f k l0 a1).bind fun t333 => (some (decide (t333 ≥ 0)))) = some r := h
 clear h
 obtain ⟨t333, A3, H⟩ := bA_ H
 obtain rfl := Option.some.inj H
 go_enter Tryz.func99, Tryz.ntmps99
 go_wp2_with ((go_at_call 100; (with_reducible refine (slices_Index_int_int.calls k _ _ l0 a1 t333 _ HR0.out HC0.out A3.out).mono ?_); rintro e w' ⟨rfl, ⟨nd, rfl⟩⟩))
 go_ret
 exact ⟨by rfl, by repeat (first | exact Drawn0.refl _ | apply Drawn0.step)⟩
def impl_ownRoute.f (k : Nat) (l0_0 : List ByteArray) (l0_1 : List (S92)) (l0_2 : List Int) (l0_3 : List Int) (l0_4 : List (S95)) (l0_5 : List (S97)) (a1 : Int) : Option (Int × Int × Int × Bool × Bool) := (slices_Contains_int_int.f k l0_2 a1).bind fun t336 => (some ((-2), 200, 0, false, t336))
theorem impl_ownRoute.calls (k A0_0 c0_0 l0_0 A0_1 c0_1 l0_1 A0_2 c0_2 l0_2 A0_3 c0_3 l0_3 A0_4 c0_4 l0_4 A0_5 c0_5 l0_5 a1 r1 r2 r3 r4 r5 w) (hr0_0 : Kd.C Kd.string w A0_0 l0_0.length l0_0) (hc0_0 : l0_0.length ≤ c0_0) (hr0_1 : Kd.C k92 w A0_1 l0_1.length l0_1) (hc0_1 : l0_1.length ≤ c0_1) (hr0_2 : Kd.C (Kd.int .i64) w A0_2 l0_2.length l0_2) (hc0_2 : l0_2.length ≤ c0_2) (hr0_3 : Kd.C (Kd.int .i64) w A0_3 l0_3.length l0_3) (hc0_3 : l0_3.length ≤ c0_3) (hr0_4 : Kd.C k95 w A0_4 l0_4.length l0_4) (hc0_4 : l0_4.length ≤ c0_4) (hr0_5 : Kd.C k97 w A0_5 l0_5.length l0_5) (hc0_5 : l0_5.length ≤ c0_5) (h : impl_ownRoute.f k l0_0 l0_1 l0_2 l0_3 l0_4 l0_5 a1 = some (r1, r2, r3, r4, r5)) :
  Calls Tryz.prog 86 #[.agg #[.slice A0_0 l0_0.length c0_0, .slice A0_1 l0_1.length c0_1, .slice A0_2 l0_2.length c0_2, .slice A0_3 l0_3.length c0_3, .slice A0_4 l0_4.length c0_4, .slice A0_5 l0_5.length c0_5], .int .i64 a1] w fun e w' => e = .returned (.tuple #[.agg #[.int .i64 r1, .int .i64 r2, .int .i64 r3, .bool r4], .bool r5]) ∧ Below w.heap.size w w' := by
 have hu38 := Tryz.underlying38
 have hu80 := Tryz.underlying58
 obtain ⟨HR0_0, HC0_0, HR0_1, HC0_1, HR0_2, HC0_2, HR0_3, HC0_3, HR0_4, HC0_4, HR0_5, HC0_5⟩ := as12 hr0_0 hc0_0 hr0_1 hc0_1 hr0_2 hc0_2 hr0_3 hc0_3 hr0_4 hc0_4 hr0_5 hc0_5
 clear hr0_0 hc0_0 hr0_1 hc0_1 hr0_2 hc0_2 hr0_3 hc0_3 hr0_4 hc0_4 hr0_5 hc0_5
 have HB := aM (Below.refl w.heap.size w)
 have H : ((slices_Contains_int_int.f k l0_2 a1).bind fun t336 => (some ((-2), 200, 0, false, t336))) = some (r1, r2, r3, r4, r5) := h
 clear h
 obtain ⟨t336, A3, H⟩ := bA_ H
 simp only [Option.some.injEq, Prod.mk.injEq] at H
 obtain ⟨rfl, rfl, rfl, rfl, rfl⟩ := H
 go_enter Tryz.func86, Tryz.ntmps86
 go_wp2_with (first | ((with_reducible refine gate_dst (N := 2) rfl ?_); refine bxE HB ?_; intro gb334 hg w4 hb BK334 GW334 GE334 HB; clear hb hg) | ((with_reducible refine gate_dst (N := 4) rfl ?_); refine bxE HB ?_; intro gb335 hg w5 hb BK335 GW335 GE335 HB; have NB334_335 := bLT BK334.out hg; have NB335_334 := bGT BK334.out hg; replace BK334 := aK BK334 hb; clear hb hg; have hnb6 := NB334_335.out; have hnc6 := NB335_334.out; obtain ⟨hcz7_0, hcz7_1, hcz7_2, hcz7_3, hcz7_4, hcz7_5⟩ := swc6 BK334.out; obtain ⟨hfz7_0, hfz7_1, hfz7_2, hfz7_3, hfz7_4, hfz7_5⟩ := swf6 BK334.out) | (go_at_call 99; (with_reducible refine (slices_Contains_int_int.calls k _ _ l0_2 a1 t336 _ (Kd.C_below HR0_2.out HB.out) HC0_2.out A3.out).mono ?_); rintro e w' ⟨rfl, ⟨nd, rfl⟩⟩; (try (rw [drewN_self w5]; generalize hq_ : World.drewN w5 _ = w5; have n0_ : Aside0 (w5.heap[gb334]? = some (.cells #[.slice A0_0 l0_0.length c0_0, .slice A0_1 l0_1.length c0_1, .slice A0_2 l0_2.length c0_2, .slice A0_3 l0_3.length c0_3, .slice A0_4 l0_4.length c0_4, .slice A0_5 l0_5.length c0_5] 38 (0, 0))) := ⟨by rw [← hq_]; exact (by (with_reducible repeat (refine blk_drewN ?_ _)); exact BK334.out)⟩; have n1_ : Aside0 (w5.heap[gb335]? = some (.cells #[.int .i64 0, .int .i64 0, .int .i64 0, .bool false] 58 (0, 0))) := ⟨by rw [← hq_]; exact (by (with_reducible repeat (refine blk_drewN ?_ _)); exact BK335.out)⟩; have n2_ : Aside0 (Below w.heap.size w w5) := ⟨by rw [← hq_]; exact (by repeat ((with_reducible first | exact HB.out | apply pw_below_drewN)))⟩; clear BK334 BK335 HB hq_; have BK334 := n0_; have BK335 := n1_; have HB := n2_; clear n0_ n1_ n2_)); obtain ⟨hcz8_0, hcz8_1, hcz8_2, hcz8_3⟩ := swc4 BK335.out; obtain ⟨hfz8_0, hfz8_1, hfz8_2, hfz8_3⟩ := swf4 BK335.out))
 refine bodyPost_ret (results_ct rfl _ _ gb335 58 #[.int .i64 (-2), .int .i64 200, .int .i64 0, .bool false] (0, 0) _ rfl (by refine blk_put (cs := #[.int .i64 (-2), .int .i64 200, .int .i64 0, .bool false]) ?_ 3 _ rfl; refine blk_put (cs := #[.int .i64 (-2), .int .i64 200, .int .i64 0, .bool false]) ?_ 2 _ rfl; refine blk_put (cs := #[.int .i64 (-2), .int .i64 0, .int .i64 0, .bool false]) ?_ 1 _ rfl; refine blk_put (cs := #[.int .i64 0, .int .i64 0, .int .i64 0, .bool false]) ?_ 0 _ rfl; exact BK335.out) Tryz.underlying58 rfl (by kernel_rfl)) rfl ?_
 exact ⟨by rfl, by repeat ((with_reducible first | exact HB.out | refine below_set ?_ GE335.out))⟩
def impl_outRoute.f (k : Nat) (l0_0 : List ByteArray) (l0_1 : List (S92)) (l0_2 : List Int) (l0_3 : List Int) (l0_4 : List (S95)) (l0_5 : List (S97)) (l1 : List Int) (a2 : Int) : Option (Int × Int × Int × Bool × Bool) := (slices_Index_int_int.f k l0_3 a2).bind fun t339 => (if t339 < 0 then (some (0, 0, 0, false, false)) else (if 0 ≤ t339 then (if t339 < (l1.length : Int) then (if (rd l1 t339) = 0 then (some (0, 0, 0, false, false)) else (some ((-1), 100, 2, ((rd l1 t339) == 2), true))) else (none)) else (none)))
theorem impl_outRoute.calls (k A0_0 c0_0 l0_0 A0_1 c0_1 l0_1 A0_2 c0_2 l0_2 A0_3 c0_3 l0_3 A0_4 c0_4 l0_4 A0_5 c0_5 l0_5 A1 c1 l1 a2 r1 r2 r3 r4 r5 w) (hr0_0 : Kd.C Kd.string w A0_0 l0_0.length l0_0) (hc0_0 : l0_0.length ≤ c0_0) (hr0_1 : Kd.C k92 w A0_1 l0_1.length l0_1) (hc0_1 : l0_1.length ≤ c0_1) (hr0_2 : Kd.C (Kd.int .i64) w A0_2 l0_2.length l0_2) (hc0_2 : l0_2.length ≤ c0_2) (hr0_3 : Kd.C (Kd.int .i64) w A0_3 l0_3.length l0_3) (hc0_3 : l0_3.length ≤ c0_3) (hr0_4 : Kd.C k95 w A0_4 l0_4.length l0_4) (hc0_4 : l0_4.length ≤ c0_4) (hr0_5 : Kd.C k97 w A0_5 l0_5.length l0_5) (hc0_5 : l0_5.length ≤ c0_5) (hr1 : Kd.C (Kd.int .i64) w A1 l1.length l1) (hc1 : l1.length ≤ c1) (h : impl_outRoute.f k l0_0 l0_1 l0_2 l0_3 l0_4 l0_5 l1 a2 = some (r1, r2, r3, r4, r5)) :
  Calls Tryz.prog 87 #[.agg #[.slice A0_0 l0_0.length c0_0, .slice A0_1 l0_1.length c0_1, .slice A0_2 l0_2.length c0_2, .slice A0_3 l0_3.length c0_3, .slice A0_4 l0_4.length c0_4, .slice A0_5 l0_5.length c0_5], .slice A1 l1.length c1, .int .i64 a2] w fun e w' => e = .returned (.tuple #[.agg #[.int .i64 r1, .int .i64 r2, .int .i64 r3, .bool r4], .bool r5]) ∧ Below w.heap.size w w' := by
 have hu38 := Tryz.underlying38
 have hu80 := Tryz.underlying58
 obtain ⟨HR0_0, HC0_0, HR0_1, HC0_1, HR0_2, HC0_2, HR0_3, HC0_3, HR0_4, HC0_4, HR0_5, HC0_5⟩ := as12 hr0_0 hc0_0 hr0_1 hc0_1 hr0_2 hc0_2 hr0_3 hc0_3 hr0_4 hc0_4 hr0_5 hc0_5
 clear hr0_0 hc0_0 hr0_1 hc0_1 hr0_2 hc0_2 hr0_3 hc0_3 hr0_4 hc0_4 hr0_5 hc0_5
 have HR1 := aM hr1
 have HC1 := aM hc1
 clear hr1 hc1
 have HB := aM (Below.refl w.heap.size w)
 have H : ((slices_Index_int_int.f k l0_3 a2).bind fun t339 => (if t339 < 0 then (some (0, 0, 0, false, false)) else (if 0 ≤ t339 then (if t339 < (l1.length : Int) then (if (rd l1 t339) = 0 then (some (0, 0, 0, false, false)) else (some ((-1), 100, 2, ((rd l1 t339) == 2), true))) else (none)) else (none)))) = some (r1, r2, r3, r4, r5) := h
 clear h
 obtain ⟨t339, A4, H⟩ := bA_ H
 by_cases c5 : t339 < 0
 ·rw [if_pos c5] at H
  have c5b0 := decide_eq_true c5
  clear c5
  simp only [Option.some.injEq, Prod.mk.injEq] at H
  obtain ⟨rfl, rfl, rfl, rfl, rfl⟩ := H
  go_enter Tryz.func87, Tryz.ntmps87
  go_wp2_with (first | ((with_reducible refine gate_dst (N := 3) rfl ?_); refine bxE HB ?_; intro gb337 hg w6 hb BK337 GW337 GE337 HB; clear hb hg) | ((with_reducible refine gate_dst (N := 6) rfl ?_); refine bxE HB ?_; intro gb338 hg w7 hb BK338 GW338 GE338 HB; have NB337_338 := bLT BK337.out hg; have NB338_337 := bGT BK337.out hg; replace BK337 := aK BK337 hb; clear hb hg; have hnb8 := NB337_338.out; have hnc8 := NB338_337.out; obtain ⟨hcz9_0, hcz9_1, hcz9_2, hcz9_3, hcz9_4, hcz9_5⟩ := swc6 BK337.out; obtain ⟨hfz9_0, hfz9_1, hfz9_2, hfz9_3, hfz9_4, hfz9_5⟩ := swf6 BK337.out) | (go_at_call 100; (with_reducible refine (slices_Index_int_int.calls k _ _ l0_3 a2 t339 _ (Kd.C_below HR0_3.out HB.out) HC0_3.out A4.out).mono ?_); rintro e w' ⟨rfl, ⟨nd, rfl⟩⟩; (try (rw [drewN_self w7]; generalize hq_ : World.drewN w7 _ = w7; have n0_ : Aside0 (w7.heap[gb337]? = some (.cells #[.slice A0_0 l0_0.length c0_0, .slice A0_1 l0_1.length c0_1, .slice A0_2 l0_2.length c0_2, .slice A0_3 l0_3.length c0_3, .slice A0_4 l0_4.length c0_4, .slice A0_5 l0_5.length c0_5] 38 (0, 0))) := ⟨by rw [← hq_]; exact (by (with_reducible repeat (refine blk_drewN ?_ _)); exact BK337.out)⟩; have n1_ : Aside0 (w7.heap[gb338]? = some (.cells #[.int .i64 0, .int .i64 0, .int .i64 0, .bool false] 58 (0, 0))) := ⟨by rw [← hq_]; exact (by (with_reducible repeat (refine blk_drewN ?_ _)); exact BK338.out)⟩; have n2_ : Aside0 (Below w.heap.size w w7) := ⟨by rw [← hq_]; exact (by repeat ((with_reducible first | exact HB.out | apply pw_below_drewN)))⟩; clear BK337 BK338 HB hq_; have BK337 := n0_; have BK338 := n1_; have HB := n2_; clear n0_ n1_ n2_)); obtain ⟨hcz10_0, hcz10_1, hcz10_2, hcz10_3⟩ := swc4 BK338.out; obtain ⟨hfz10_0, hfz10_1, hfz10_2, hfz10_3⟩ := swf4 BK338.out))
  refine bodyPost_ret (results_ct rfl _ _ gb338 58 #[.int .i64 0, .int .i64 0, .int .i64 0, .bool false] (0, 0) _ rfl (by refine blk_put (cs := #[.int .i64 0, .int .i64 0, .int .i64 0, .bool false]) ?_ 3 _ rfl; refine blk_put (cs := #[.int .i64 0, .int .i64 0, .int .i64 0, .bool false]) ?_ 2 _ rfl; refine blk_put (cs := #[.int .i64 0, .int .i64 0, .int .i64 0, .bool false]) ?_ 1 _ rfl; refine blk_put (cs := #[.int .i64 0, .int .i64 0, .int .i64 0, .bool false]) ?_ 0 _ rfl; exact BK338.out) Tryz.underlying58 rfl (by kernel_rfl)) rfl ?_
  exact ⟨by rfl, by repeat ((with_reducible first | exact HB.out | refine below_set ?_ GE338.out))⟩
 rw [if_neg c5] at H
 have c5b0 := decide_eq_false c5
 clear c5
 obtain ⟨c11b0, H⟩ := iD H
 obtain ⟨c12b0, H⟩ := iD H
 by_cases c13 : (rd l1 t339) = 0
 ·rw [if_pos c13] at H
  have c13b0 := beq_iff_eq.mpr c13
  have c13b1 : ((rd l1 t339) != 0) = false := bne_eq_false_iff_eq.mpr c13
  clear c13
  simp only [Option.some.injEq, Prod.mk.injEq] at H
  obtain ⟨rfl, rfl, rfl, rfl, rfl⟩ := H
  go_enter Tryz.func87, Tryz.ntmps87
  go_wp2_with (first | ((with_reducible refine gate_dst (N := 3) rfl ?_); refine bxE HB ?_; intro gb337 hg w14 hb BK337 GW337 GE337 HB; clear hb hg) | ((with_reducible refine gate_dst (N := 6) rfl ?_); refine bxE HB ?_; intro gb338 hg w15 hb BK338 GW338 GE338 HB; have NB337_338 := bLT BK337.out hg; have NB338_337 := bGT BK337.out hg; replace BK337 := aK BK337 hb; clear hb hg; have hnb16 := NB337_338.out; have hnc16 := NB338_337.out; obtain ⟨hcz17_0, hcz17_1, hcz17_2, hcz17_3, hcz17_4, hcz17_5⟩ := swc6 BK337.out; obtain ⟨hfz17_0, hfz17_1, hfz17_2, hfz17_3, hfz17_4, hfz17_5⟩ := swf6 BK337.out) | (go_at_call 100; (with_reducible refine (slices_Index_int_int.calls k _ _ l0_3 a2 t339 _ (Kd.C_below HR0_3.out HB.out) HC0_3.out A4.out).mono ?_); rintro e w' ⟨rfl, ⟨nd, rfl⟩⟩; (try (rw [drewN_self w15]; generalize hq_ : World.drewN w15 _ = w15; have n0_ : Aside0 (w15.heap[gb337]? = some (.cells #[.slice A0_0 l0_0.length c0_0, .slice A0_1 l0_1.length c0_1, .slice A0_2 l0_2.length c0_2, .slice A0_3 l0_3.length c0_3, .slice A0_4 l0_4.length c0_4, .slice A0_5 l0_5.length c0_5] 38 (0, 0))) := ⟨by rw [← hq_]; exact (by (with_reducible repeat (refine blk_drewN ?_ _)); exact BK337.out)⟩; have n1_ : Aside0 (w15.heap[gb338]? = some (.cells #[.int .i64 0, .int .i64 0, .int .i64 0, .bool false] 58 (0, 0))) := ⟨by rw [← hq_]; exact (by (with_reducible repeat (refine blk_drewN ?_ _)); exact BK338.out)⟩; have n2_ : Aside0 (Below w.heap.size w w15) := ⟨by rw [← hq_]; exact (by repeat ((with_reducible first | exact HB.out | apply pw_below_drewN)))⟩; clear BK337 BK338 HB hq_; have BK337 := n0_; have BK338 := n1_; have HB := n2_; clear n0_ n1_ n2_)); have p340 : 0 ≤ (t339 : Int) := oD ‹_›; have q340 : t339 < (l1.length : Int) := oD ‹_›; obtain ⟨ad340, e340, hx340_0⟩ := Kd.at_int HR1.out t339 p340 q340; cases e340; replace hx340_0 := swB HB.out hx340_0; replace p340 := eq_true p340; replace q340 := eq_true q340; obtain ⟨hcz18_0, hcz18_1, hcz18_2, hcz18_3⟩ := swc4 BK338.out; obtain ⟨hfz18_0, hfz18_1, hfz18_2, hfz18_3⟩ := swf4 BK338.out))
  refine bodyPost_ret (results_ct rfl _ _ gb338 58 #[.int .i64 0, .int .i64 0, .int .i64 0, .bool false] (0, 0) _ rfl (by refine blk_put (cs := #[.int .i64 0, .int .i64 0, .int .i64 0, .bool false]) ?_ 3 _ rfl; refine blk_put (cs := #[.int .i64 0, .int .i64 0, .int .i64 0, .bool false]) ?_ 2 _ rfl; refine blk_put (cs := #[.int .i64 0, .int .i64 0, .int .i64 0, .bool false]) ?_ 1 _ rfl; refine blk_put (cs := #[.int .i64 0, .int .i64 0, .int .i64 0, .bool false]) ?_ 0 _ rfl; exact BK338.out) Tryz.underlying58 rfl (by kernel_rfl)) rfl ?_
  exact ⟨by rfl, by repeat ((with_reducible first | exact HB.out | refine below_set ?_ GE338.out))⟩
 rw [if_neg c13] at H
 have c13b0 := beq_eq_false_iff_ne.mpr c13
 have c13b1 : ((rd l1 t339) != 0) = true := bne_iff_ne.mpr c13
 simp only [Option.some.injEq, Prod.mk.injEq] at H
 obtain ⟨rfl, rfl, rfl, rfl, rfl⟩ := H
 go_enter Tryz.func87, Tryz.ntmps87
 go_wp2_with (first | ((with_reducible refine gate_dst (N := 3) rfl ?_); refine bxE HB ?_; intro gb337 hg w19 hb BK337 GW337 GE337 HB; clear hb hg) | ((with_reducible refine gate_dst (N := 6) rfl ?_); refine bxE HB ?_; intro gb338 hg w20 hb BK338 GW338 GE338 HB; have NB337_338 := bLT BK337.out hg; have NB338_337 := bGT BK337.out hg; replace BK337 := aK BK337 hb; clear hb hg; have hnb21 := NB337_338.out; have hnc21 := NB338_337.out; obtain ⟨hcz22_0, hcz22_1, hcz22_2, hcz22_3, hcz22_4, hcz22_5⟩ := swc6 BK337.out; obtain ⟨hfz22_0, hfz22_1, hfz22_2, hfz22_3, hfz22_4, hfz22_5⟩ := swf6 BK337.out) | (go_at_call 100; (with_reducible refine (slices_Index_int_int.calls k _ _ l0_3 a2 t339 _ (Kd.C_below HR0_3.out HB.out) HC0_3.out A4.out).mono ?_); rintro e w' ⟨rfl, ⟨nd, rfl⟩⟩; (try (rw [drewN_self w20]; generalize hq_ : World.drewN w20 _ = w20; have n0_ : Aside0 (w20.heap[gb337]? = some (.cells #[.slice A0_0 l0_0.length c0_0, .slice A0_1 l0_1.length c0_1, .slice A0_2 l0_2.length c0_2, .slice A0_3 l0_3.length c0_3, .slice A0_4 l0_4.length c0_4, .slice A0_5 l0_5.length c0_5] 38 (0, 0))) := ⟨by rw [← hq_]; exact (by (with_reducible repeat (refine blk_drewN ?_ _)); exact BK337.out)⟩; have n1_ : Aside0 (w20.heap[gb338]? = some (.cells #[.int .i64 0, .int .i64 0, .int .i64 0, .bool false] 58 (0, 0))) := ⟨by rw [← hq_]; exact (by (with_reducible repeat (refine blk_drewN ?_ _)); exact BK338.out)⟩; have n2_ : Aside0 (Below w.heap.size w w20) := ⟨by rw [← hq_]; exact (by repeat ((with_reducible first | exact HB.out | apply pw_below_drewN)))⟩; clear BK337 BK338 HB hq_; have BK337 := n0_; have BK338 := n1_; have HB := n2_; clear n0_ n1_ n2_)); have p340 : 0 ≤ (t339 : Int) := oD ‹_›; have q340 : t339 < (l1.length : Int) := oD ‹_›; obtain ⟨ad340, e340, hx340_0⟩ := Kd.at_int HR1.out t339 p340 q340; cases e340; replace hx340_0 := swB HB.out hx340_0; replace p340 := eq_true p340; replace q340 := eq_true q340; have p341 : 0 ≤ (t339 : Int) := oD ‹_›; have q341 : t339 < (l1.length : Int) := oD ‹_›; obtain ⟨ad341, e341, hx341_0⟩ := Kd.at_int HR1.out t339 p341 q341; obtain rfl : ad340 = ad341 := (by injection e341); replace hx341_0 := swB HB.out hx341_0; replace p341 := eq_true p341; replace q341 := eq_true q341; obtain ⟨hcz23_0, hcz23_1, hcz23_2, hcz23_3⟩ := swc4 BK338.out; obtain ⟨hfz23_0, hfz23_1, hfz23_2, hfz23_3⟩ := swf4 BK338.out))
 refine bodyPost_ret (results_ct rfl _ _ gb338 58 #[.int .i64 (-1), .int .i64 100, .int .i64 2, .bool ((rd l1 t339) == 2)] (0, 0) _ rfl (by refine blk_put (cs := #[.int .i64 (-1), .int .i64 100, .int .i64 2, .bool false]) ?_ 3 _ rfl; refine blk_put (cs := #[.int .i64 (-1), .int .i64 100, .int .i64 0, .bool false]) ?_ 2 _ rfl; refine blk_put (cs := #[.int .i64 (-1), .int .i64 0, .int .i64 0, .bool false]) ?_ 1 _ rfl; refine blk_put (cs := #[.int .i64 0, .int .i64 0, .int .i64 0, .bool false]) ?_ 0 _ rfl; exact BK338.out) Tryz.underlying58 rfl (by kernel_rfl)) rfl ?_
 exact ⟨by rfl, by repeat ((with_reducible first | exact HB.out | refine below_set ?_ GE338.out))⟩
def impl_comesTo.l0 : Nat → List (S80) → Int → Int → Int → Int → Option (Bool)
 | 0, _, _, _, _, _ => none
 | k + 1, x0, x2, x7, x11, x12 => if x12 < x11 then (if x7 = x2 then (some true) else (if x7 < 0 then (some false) else (if 0 ≤ x7 then (if x7 < (x0.length : Int) then (impl_comesTo.l0 k x0 x2 ((rd_T80 x0 x7).f0) x11 (wrap64 (x12 + 1))) else (none)) else (none)))) else (some true)
def impl_comesTo.f (k : Nat) (l0 : List (S80)) (a1 : Int) (a2 : Int) : Option (Bool) := impl_comesTo.l0 k l0 a2 a1 (wrap64 ((l0.length : Int) + 1)) 0
theorem impl_comesTo.calls (k A0 c0 l0 a1 a2 r w) (hr0 : Kd.C k80 w A0 l0.length l0) (hc0 : l0.length ≤ c0) (h : impl_comesTo.f k l0 a1 a2 = some r) :
  Calls Tryz.prog 89 #[.slice A0 l0.length c0, .int .i64 a1, .int .i64 a2] w fun e w' => e = .returned (.bool r) ∧ Drawn0 w w' := by
 have HR0 := aM hr0
 have HC0 := aM hc0
 clear hr0 hc0
 have H : (impl_comesTo.l0 k l0 a2 a1 (wrap64 ((l0.length : Int) + 1)) 0) = some r := h
 clear h
 have H' := aM H
 clear H
 go_enter Tryz.func89, Tryz.ntmps89
 go_wp2
 go_loopg [7, 12] k (fun kq v7 v12 w' => ∃ (x7_1 : Int) (x12_1 : Int), v7 = .int .i64 x7_1 ∧ v12 = .int .i64 x12_1 ∧ Aside0 (impl_comesTo.l0 kq l0 a2 x7_1 (wrap64 ((l0.length : Int) + 1)) x12_1 = some r) ∧ Aside0 (kq ≤ k) ∧ Drawn0 w w')
 case atStart => exact ⟨(a1), (0), (by rfl), (by rfl), H', ⟨Nat.le_refl _⟩, by repeat (exact Drawn0.refl _)⟩
 clear H'
 obtain ⟨x7_1, x12_1, rfl, rfl, HA, HK1, ⟨m1, rfl⟩⟩ := hrel
 cases gk with
 | zero => exact absurd HA.out (by simp [impl_comesTo.l0])
 | succ k1 =>
  obtain ⟨H⟩ := HA
  simp only [impl_comesTo.l0] at H
  by_cases c4 : x12_1 < (wrap64 ((l0.length : Int) + 1))
  rotate_left
  ·rw [if_neg c4] at H
   have c4b0 := decide_eq_false c4
   clear c4
   obtain rfl := Option.some.inj H
   go_wp2
   go_ret
   exact ⟨by rfl, by repeat (first | exact Drawn0.refl _ | apply Drawn0.step)⟩
  rw [if_pos c4] at H
  have c4b0 := decide_eq_true c4
  clear c4
  by_cases c5 : x7_1 = a2
  ·rw [if_pos c5] at H
   have c5b0 := beq_iff_eq.mpr c5
   have c5b1 : (x7_1 != a2) = false := bne_eq_false_iff_eq.mpr c5
   clear c5
   obtain rfl := Option.some.inj H
   go_wp2
   go_ret
   exact ⟨by rfl, by repeat (first | exact Drawn0.refl _ | apply Drawn0.step)⟩
  rw [if_neg c5] at H
  have c5b0 := beq_eq_false_iff_ne.mpr c5
  have c5b1 : (x7_1 != a2) = true := bne_iff_ne.mpr c5
  by_cases c6 : x7_1 < 0
  ·rw [if_pos c6] at H
   have c6b0 := decide_eq_true c6
   clear c6
   obtain rfl := Option.some.inj H
   go_wp2
   go_ret
   exact ⟨by rfl, by repeat (first | exact Drawn0.refl _ | apply Drawn0.step)⟩
  rw [if_neg c6] at H
  have c6b0 := decide_eq_false c6
  clear c6
  obtain ⟨c7b0, H⟩ := iD H
  obtain ⟨c8b0, H⟩ := iD H
  have H' := aM H
  clear H
  have p342 : 0 ≤ (x7_1 : Int) := oD ‹_›
  have q342 : x7_1 < (l0.length : Int) := oD ‹_›
  obtain ⟨ad342, e342, hx342_0, hx342_1, hx342_2, hx342_3⟩ := at_T80 HR0.out x7_1 p342 q342
  cases e342
  replace p342 := eq_true p342
  replace q342 := eq_true q342
  go_wp2
  go_roundg k1
  case measure => have := HK1.out; omega
  case rel => exact ⟨((rd_T80 l0 x7_1).f0), (wrap64 (x12_1 + 1)), (by rfl), (by rfl), H', ⟨by have := HK1.out; omega⟩, by repeat (first | exact Drawn0.refl _ | apply Drawn0.step)⟩
def s105_1_T : Bool × List (List Nat × List Nat) := (true, [([], []), ([], []), ([1], [1]), ([], []), ([3], [3]), ([], []), ([], []), ([], []), ([5, 6, 7], [5, 6, 7]), ([4, 8], [4, 8]), ([9], [9]), ([10], [10]), ([2, 11], [2, 11]), ([], []), ([13], [13]), ([0, 12, 14], [0, 12, 14]), ([], []), ([16, 15, 8, 0, 1, 2, 3, 4, 5, 6, 7, 8, 9, 10, 11, 12, 13, 14, 15, 16], [15, 16])])
theorem s105_1_tab : rtab .any (opsOf Tryz.f90 1) = s105_1_T := by kernel_rfl
def impI (a b : Int) : List S95 → Int → Bool → Option (Int × Bool)
 | [], p, m => some (p, m)
 | x :: r, p, m => if ((((x.f0 != a) || (x.f1 != b)) || ((x.f2 == 1) && (!m))) || ((x.f2 == 2) && m)) = true then impI a b r p m else (if (x.f3 == 1) = true then none else (if (x.f3 == 2) = true then impI a b r x.f4 m else (if (x.f3 == 3) = true then impI a b r p true else (if (x.f3 == 4) = true then impI a b r p false else impI a b r p m))))
def resI (a L : Int) : Option (Int × Bool) → Int × Int × Int × Bool × Bool
 | none => (0, 0, 0, false, false)
 | some q => (a, q.1, L, q.2, true)
def impl_imported.f (k : Nat) (l0_0 : List ByteArray) (l0_1 : List S92) (l0_2 : List Int) (l0_3 : List Int) (l0_4 : List S95) (l0_5 : List S97) (a1 : Int) (a2 : Int) (a3_0 : Int) (a3_1 : Int) (a3_2 : Int) (a3_3 : Bool) : Option (Int × Int × Int × Bool × Bool) := if 0 ≤ (linkI l0_1 a1 a2) ∧ (linkI l0_1 a1 a2) < (l0_1.length : Int) then some (resI a2 (wrap64 (a3_2 + (rd_T92 l0_1 (linkI l0_1 a1 a2)).f2)) (impI a1 a2 l0_4 100 a3_3)) else none
theorem impl_imported.calls (k A0_0 c0_0 l0_0 A0_1 c0_1 l0_1 A0_2 c0_2 l0_2 A0_3 c0_3 l0_3 A0_4 c0_4 l0_4 A0_5 c0_5 l0_5 a1 a2 a3_0 a3_1 a3_2 a3_3 r1 r2 r3 r4 r5 w) (hr0_0 : Kd.C Kd.string w A0_0 l0_0.length l0_0) (hc0_0 : l0_0.length ≤ c0_0) (hr0_1 : Kd.C k92 w A0_1 l0_1.length l0_1) (hc0_1 : l0_1.length ≤ c0_1) (hr0_2 : Kd.C (Kd.int .i64) w A0_2 l0_2.length l0_2) (hc0_2 : l0_2.length ≤ c0_2) (hr0_3 : Kd.C (Kd.int .i64) w A0_3 l0_3.length l0_3) (hc0_3 : l0_3.length ≤ c0_3) (hr0_4 : Kd.C k95 w A0_4 l0_4.length l0_4) (hc0_4 : l0_4.length ≤ c0_4) (hr0_5 : Kd.C k97 w A0_5 l0_5.length l0_5) (hc0_5 : l0_5.length ≤ c0_5) (h : impl_imported.f k l0_0 l0_1 l0_2 l0_3 l0_4 l0_5 a1 a2 a3_0 a3_1 a3_2 a3_3 = some (r1, r2, r3, r4, r5)) :
  Calls Tryz.prog 90 #[.agg #[.slice A0_0 l0_0.length c0_0, .slice A0_1 l0_1.length c0_1, .slice A0_2 l0_2.length c0_2, .slice A0_3 l0_3.length c0_3, .slice A0_4 l0_4.length c0_4, .slice A0_5 l0_5.length c0_5], .int .i64 a1, .int .i64 a2, .agg #[.int .i64 a3_0, .int .i64 a3_1, .int .i64 a3_2, .bool a3_3]] w fun e w' => e = .returned (.tuple #[.agg #[.int .i64 r1, .int .i64 r2, .int .i64 r3, .bool r4], .bool r5]) ∧ Below w.heap.size w w' := by
 have hu38 := Tryz.underlying38
 have hu80 := Tryz.underlying58
 have hu92 := Tryz.underlying83
 have hu95 := Tryz.underlying87
 have HN : Aside0 (Kd.C Kd.string w A0_0 l0_0.length l0_0 ∧ l0_0.length ≤ c0_0 ∧ Kd.C k92 w A0_1 l0_1.length l0_1 ∧ l0_1.length ≤ c0_1 ∧ Kd.C (Kd.int .i64) w A0_2 l0_2.length l0_2 ∧ l0_2.length ≤ c0_2 ∧ Kd.C (Kd.int .i64) w A0_3 l0_3.length l0_3 ∧ l0_3.length ≤ c0_3 ∧ Kd.C k95 w A0_4 l0_4.length l0_4 ∧ l0_4.length ≤ c0_4 ∧ Kd.C k97 w A0_5 l0_5.length l0_5 ∧ l0_5.length ≤ c0_5) := ⟨hr0_0, hc0_0, hr0_1, hc0_1, hr0_2, hc0_2, hr0_3, hc0_3, hr0_4, hc0_4, hr0_5, hc0_5⟩
 have HM : Aside0 (l0_1.length ≤ 9223372036854775807 ∧ l0_4.length ≤ 9223372036854775807) := ⟨Kd.C_max hr0_1, Kd.C_max hr0_4⟩
 clear hr0_0 hc0_0 hr0_1 hc0_1 hr0_2 hc0_2 hr0_3 hc0_3 hr0_4 hc0_4 hr0_5 hc0_5
 have HB := aM (Below.refl w.heap.size w)
 unfold impl_imported.f at h
 obtain ⟨t, ht⟩ : ∃ t, linkI l0_1 a1 a2 = t := ⟨_, rfl⟩
 rw [ht] at h
 by_cases hbd : 0 ≤ t ∧ t < (l0_1.length : Int)
 rotate_left
 ·rw [if_neg hbd] at h
  cases h
 rw [if_pos hbd] at h
 obtain ⟨ad, ea, hy0, hy1, hy2⟩ := at_T92 HN.out.2.2.1 t hbd.1 hbd.2
 cases ea
 have HCO := aM hy2
 have HMB := aM hbd
 replace h := Option.some.inj h
 generalize rd_T92 l0_1 t = y at h HCO
 obtain ⟨y0, y1, cost⟩ := y
 dsimp only at h HCO
 obtain ⟨R, hR⟩ : ∃ R, impI a1 a2 l0_4 100 a3_3 = R := ⟨_, rfl⟩
 rw [hR] at h
 have HR := aM h
 have HI : Aside0 (impI a1 a2 (l0_4.drop 0) 100 a3_3 = R) := ⟨by rw [List.drop_zero]; exact hR⟩
 have HC : Aside0 (∀ V : World, Below w.heap.size w V → Calls Tryz.prog 75 #[.agg #[.slice A0_0 l0_0.length c0_0, .slice (some ad) l0_1.length c0_1, .slice A0_2 l0_2.length c0_2, .slice A0_3 l0_3.length c0_3, .slice A0_4 l0_4.length c0_4, .slice A0_5 l0_5.length c0_5], .int .i64 a1, .int .i64 a2] V fun e w' => e = .returned (.int .i64 t) ∧ Below V.heap.size V w') := ⟨fun V hV => impl_linkOf.calls A0_0 c0_0 l0_0 (some ad) c0_1 l0_1 A0_2 c0_2 l0_2 A0_3 c0_3 l0_3 A0_4 c0_4 l0_4 A0_5 c0_5 l0_5 a1 a2 t V (Kd.C_below HN.out.1 hV) HN.out.2.1 (Kd.C_below HN.out.2.2.1 hV) HN.out.2.2.2.1 (Kd.C_below HN.out.2.2.2.2.1 hV) HN.out.2.2.2.2.2.1 (Kd.C_below HN.out.2.2.2.2.2.2.1 hV) HN.out.2.2.2.2.2.2.2.1 (Kd.C_below HN.out.2.2.2.2.2.2.2.2.1 hV) HN.out.2.2.2.2.2.2.2.2.2.1 (Kd.C_below HN.out.2.2.2.2.2.2.2.2.2.2.1 hV) HN.out.2.2.2.2.2.2.2.2.2.2.2 (by unfold impl_linkOf.f; exact congrArg some ht)⟩
 clear hy0 hy1 hy2 h hR ht hbd
 go_enter Tryz.func90, Tryz.ntmps90
 go_wp2_with (first | ((with_reducible refine gate_dst (N := 4) rfl ?_); refine box_event rfl (N := 4) rfl (cs := #[.slice A0_0 l0_0.length c0_0, .slice (some ad) l0_1.length c0_1, .slice A0_2 l0_2.length c0_2, .slice A0_3 l0_3.length c0_3, .slice A0_4 l0_4.length c0_4, .slice A0_5 l0_5.length c0_5]) (t := 38) (by go_simp; done) ?_; intro gN hg_ wN hbox hbb; have GEN := aM (show w.heap.size ≤ gN by rw [hg_]; exact HB.out.size); replace HB := aM (HB.out.trans (hbb.mono HB.out.size)); clear hbb hg_; have BN := aM hbox; clear hbox; obtain ⟨cN0, cN1, cN2, cN3, cN4, cN5⟩ := box6 BN.out) | ((with_reducible refine gate_dst (N := 7) rfl ?_); refine box_event rfl (N := 7) rfl (cs := #[.int .i64 a3_0, .int .i64 a3_1, .int .i64 a3_2, .bool a3_3]) (t := 58) (by go_simp; done) ?_; intro gP hg_ wP hbox hbb; clear cN0 cN1 cN2 cN3 cN4 cN5; have GEP := aM (show w.heap.size ≤ gP by rw [hg_]; exact HB.out.size); have NENP := aM (show gN ≠ gP by rw [hg_]; exact Nat.ne_of_lt (blk_lt BN.out)); replace HB := aM (HB.out.trans (hbb.mono HB.out.size)); replace BN := aM (blk_below BN.out hbb); clear hbb hg_; have BP := aM hbox; clear hbox; obtain ⟨cN0, cN1, cN2, cN3, cN4, cN5⟩ := box6 BN.out; obtain ⟨cP0, cP1, cP2, cP3⟩ := box4 BP.out) | ((with_reducible refine gate_dst (N := 8) rfl ?_); refine box_event rfl (N := 8) rfl (cs := #[.int .i64 0, .int .i64 0, .int .i64 0, .bool false]) (t := 58) (by go_simp; done) ?_; intro gO hg_ wO hbox hbb; clear cN0 cN1 cN2 cN3 cN4 cN5 cP0 cP1 cP2 cP3; have GEO := aM (show w.heap.size ≤ gO by rw [hg_]; exact HB.out.size); have NENO := aM (show gN ≠ gO by rw [hg_]; exact Nat.ne_of_lt (blk_lt BN.out)); have NEPO := aM (show gP ≠ gO by rw [hg_]; exact Nat.ne_of_lt (blk_lt BP.out)); replace HB := aM (HB.out.trans (hbb.mono HB.out.size)); replace BN := aM (blk_below BN.out hbb); replace BP := aM (blk_below BP.out hbb); clear hbb hg_; have BO := aM hbox; clear hbox; obtain ⟨cN0, cN1, cN2, cN3, cN4, cN5⟩ := box6 BN.out; obtain ⟨cP0, cP1, cP2, cP3⟩ := box4 BP.out; obtain ⟨cO0, cO1, cO2, cO3⟩ := box4 BO.out))
 clear cN0 cN1 cN2 cN3 cN4 cN5 cP0 cP1 cP2 cP3 cO0 cO1 cO2 cO3
 have HW : ∀ W, Below wO.drew.heap.size wO.drew W → Below w.heap.size w W := fun W hW => (below_drew1 HB.out).trans (hW.mono HB.out.size)
 have dN := fun (W : World) (hW : Below wO.drew.heap.size wO.drew W) => blk_below (blk_drew BN.out) hW
 have dP := fun (W : World) (hW : Below wO.drew.heap.size wO.drew W) => blk_below (blk_drew BP.out) hW
 have dO := fun (W : World) (hW : Below wO.drew.heap.size wO.drew W) => blk_below (blk_drew BO.out) hW
 refine any_tail [some 13, some 14, some 15, some 16, some 17, some 18, some 19, some 20, some 21, some 22, some 23, some 24, some 25, some 26, some 27, some 28, some 10, none] 83 17 [0, 0, 2, 0, 8, 0, 0, 0, 224, 504, 1016, 2040, 4094, 0, 8192, 32767, 0, 131071] [VP.eq (.int .i64 (a2)), VP.eq (.pointer (some ⟨gP, 2, none⟩)), VP.eq (.int .i64 (a3_2)), VP.eq (.pointer (some ⟨gN, 1, none⟩)), VP.eq (.slice (some ad) l0_1.length c0_1), VP.eq (.agg #[.slice A0_0 l0_0.length c0_0, .slice (some ad) l0_1.length c0_1, .slice A0_2 l0_2.length c0_2, .slice A0_3 l0_3.length c0_3, .slice A0_4 l0_4.length c0_4, .slice A0_5 l0_5.length c0_5]), VP.eq (.int .i64 (a1)), VP.eq (.int .i64 (a2)), VP.eq (.int .i64 (t)), VP.eq (.pointer (some (ad.add (t.toNat * 3)))), VP.eq (.pointer (some (⟨(ad.add (t.toNat * 3)).block, (ad.add (t.toNat * 3)).off + 2, none⟩))), VP.eq (.int .i64 (cost)), VP.eq (.int .i64 (wrap64 (a3_2 + cost))), VP.eq (.pointer (some ⟨gP, 3, none⟩)), VP.eq (.bool (a3_3)), VP.eq (.agg #[.int .i64 (a2), .int .i64 (100), .int .i64 (wrap64 (a3_2 + cost)), .bool (a3_3)]), VP.box (wO.heap.size) #[.int .i64 0, .int .i64 0, .int .i64 0, .bool false] 58] rfl s105_1_tab rfl rfl (by kernel_rfl) rfl ⟨?_, ?_, ?_, ?_, ?_, ?_, ?_, ?_, ?_, ?_, ?_, ?_, ?_, ?_, ?_, ?_, ?_, trivial⟩ ?_
 ·exact fun _ W _ hW _ hb hd _ hK _ => gn_ hK (x_move rfl (hb 2))
 ·exact fun _ W _ hW _ hb hd _ hK _ => gn_ hK (x_fa80 rfl (oD (by kernel_rfl)) (hb 7))
 ·exact fun _ W _ hW _ hb hd _ hK _ => gn_ hK (x_ld3 rfl (hd 1 14) ((blk_cell (dP W hW) 2).trans rfl))
 ·exact fun _ W _ hW _ hb hd _ hK _ => gn_ hK (x_fa38 rfl (oD (by kernel_rfl)) (hb 4))
 ·exact fun _ W _ hW _ hb hd _ hK _ => gn_ hK (x_ld34 rfl (hd 3 16) ((blk_cell (dN W hW) 1).trans rfl))
 ·exact fun _ W _ hW _ hb hd _ hK _ => gn_ hK (x_ld38 rfl (hb 4) (dN W hW))
 ·exact fun _ W _ hW _ hb hd _ hK _ => gn_ hK (x_move rfl (hb 1))
 ·exact fun _ W _ hW _ hb hd _ hK _ => gn_ hK (x_move rfl (hb 2))
 ·intro bq W B hW hB hb hd K hK hK2; exact gc_step (C := true) wn_ (fun _ => ⟨x_call Tryz.func75 (by kernel_rfl) rfl rfl (args3 (hd 5 18) (hd 6 19) (hd 7 20)), (HC.out W (HW W hW)).mono (fun e_ W_ h_ => ⟨h_.1, h_.2⟩)⟩) (fun W_ hb_ => hK _ W_ rfl hb_)
 ·exact fun _ W _ hW _ hb hd _ hK _ => gn_ hK (x_ix34 rfl (hd 4 17) (hd 8 21) HMB.out.1 HMB.out.2 HM.out.1)
 ·exact fun _ W _ hW _ hb hd _ hK _ => gn_ hK (x_fb92 rfl (hd 9 22))
 ·exact fun _ W _ hW _ hb hd _ hK _ => gn_ hK (x_ld3 rfl (hd 10 23) (((HW W hW).cell (World.block_lt_of_cell? w _ HCO.out)).trans HCO.out))
 ·exact fun _ W _ hW _ hb hd _ hK _ => gn_ hK (x_add rfl (hd 2 15) (hd 11 24) (i64_w _))
 ·exact fun _ W _ hW _ hb hd _ hK _ => gn_ hK (x_fa80 rfl (oD (by kernel_rfl)) (hb 7))
 ·exact fun _ W _ hW _ hb hd _ hK _ => gn_ hK (x_ld4 rfl (hd 13 26) ((blk_cell (dP W hW) 3).trans rfl))
 ·exact fun _ W _ hW _ hb hd _ hK _ => gn_ hK (x_bdr rfl (hd 0 13) (hd 12 25) (hd 14 27))
 ·intro bq W B hW hB hb hd K hK hK2; refine al_step80 rfl rfl (fun W' h_ hb_ hl_ => hK2 _ W' ?_ hb_ hl_); obtain ⟨g_, e_, h1_, h2_, h3_⟩ := h_; exact ⟨g_, e_, Nat.le_trans hW.size h1_, .inr h2_, h3_⟩
 intro vals F W B hF hW hBB hV
 obtain ⟨gX, e9, hg9, -, hx9⟩ := hV 16 10 (oD (by kernel_rfl)) rfl
 have e28 : vals 28 = .agg #[.int .i64 a2, .int .i64 100, .int .i64 (wrap64 (a3_2 + cost)), .bool a3_3] := hV 15 28 (oD (by kernel_rfl)) rfl
 have GEX := aM (Nat.le_trans HB.out.size hg9)
 have NENX := aM (show gN ≠ gX from Nat.ne_of_lt (Nat.lt_of_lt_of_le (blk_lt BN.out) hg9))
 have NEPX := aM (show gP ≠ gX from Nat.ne_of_lt (Nat.lt_of_lt_of_le (blk_lt BP.out) hg9))
 have NEOX := aM (show gO ≠ gX from Nat.ne_of_lt (Nat.lt_of_lt_of_le (blk_lt BO.out) hg9))
 replace HB := aM (HW W hW)
 replace BN := aM (dN W hW)
 replace BP := aM (dP W hW)
 replace BO := aM (dO W hW)
 have BX := aM hx9
 clear hV hBB hg9 hx9 hW HW dN dP dO
 rw [hF]
 clear hF
 simp only [List.take, fillA, Act.put, List.setIfInBounds_toArray, List.set_cons_zero, List.set_cons_succ, List.drop_succ_cons, List.drop_zero, e9, e28]
 clear e9 e28 BP
 obtain ⟨cN0, cN1, cN2, cN3, cN4, cN5⟩ := box6 BN.out
 obtain ⟨cO0, cO1, cO2, cO3⟩ := box4 BO.out
 obtain ⟨cX0, cX1, cX2, cX3⟩ := box4 BX.out
 go_wp2_with (((with_reducible refine gate_store (t := 58) (p := 10) rfl ?_); have z0 := blk_frozen BX.out 0; have z1 := blk_frozen BX.out 1; have z2 := blk_frozen BX.out 2; have z3 := blk_frozen BX.out 3; refine store_event (t := 58) (p := 10) (v := .tmp 28) (w1 := ((((W.setCell ⟨gX, 0, none⟩ (.int .i64 a2)).setCell ⟨gX, 1, none⟩ (.int .i64 100)).setCell ⟨gX, 2, none⟩ (.int .i64 (wrap64 (a3_2 + cost)))).setCell ⟨gX, 3, none⟩ (.bool a3_3))) ?hg ?ho ?hn ?hr ?_; (case ho => rfl); (case hg => rfl); (case hn => rfl); (case hr => (go_simp; done)); clear z0 z1 z2 z3; clear cN0 cN1 cN2 cN3 cN4 cN5 cO0 cO1 cO2 cO3 cX0 cX1 cX2 cX3; intro w9 hw_; obtain ⟨hbk, hkb, hkw⟩ := boxv4 (v0 := .int .i64 a2) (v1 := .int .i64 100) (v2 := .int .i64 (wrap64 (a3_2 + cost))) (v3 := .bool a3_3) BX.out; rw [← hw_] at hbk hkb hkw; clear hw_; replace HB := aM (hkw _ HB.out GEX.out); replace BN := aM (blk_kept BN.out hkb (fun h_ => NENX.out h_)); replace BO := aM (blk_kept BO.out hkb (fun h_ => NEOX.out h_)); replace BX := aM (hbk); clear hbk hkb hkw; obtain ⟨cN0, cN1, cN2, cN3, cN4, cN5⟩ := box6 BN.out; obtain ⟨cO0, cO1, cO2, cO3⟩ := box4 BO.out; obtain ⟨cX0, cX1, cX2, cX3⟩ := box4 BX.out))
 clear cN0 cN1 cN2 cN3 cN4 cN5 cO0 cO1 cO2 cO3 cX0 cX1 cX2 cX3
 go_loopg [32] l0_4.length (fun gg sc wr => ∃ (kk : Nat) (p : Int) (m : Bool), kk ≤ l0_4.length ∧ l0_4.length - kk ≤ gg ∧ sc = .int .i64 kk ∧ Aside0 (Below w.heap.size w wr) ∧ Aside0 (wr.heap[gN]? = some (.cells #[.slice A0_0 l0_0.length c0_0, .slice (some ad) l0_1.length c0_1, .slice A0_2 l0_2.length c0_2, .slice A0_3 l0_3.length c0_3, .slice A0_4 l0_4.length c0_4, .slice A0_5 l0_5.length c0_5] 38 (0, 0))) ∧ Aside0 (wr.heap[gO]? = some (.cells #[.int .i64 0, .int .i64 0, .int .i64 0, .bool false] 58 (0, 0))) ∧ Aside0 (wr.heap[gX]? = some (.cells #[.int .i64 a2, .int .i64 p, .int .i64 (wrap64 (a3_2 + cost)), .bool m] 58 (0, 0))) ∧ Aside0 (impI a1 a2 (l0_4.drop kk) p m = R))
 case atStart => exact ⟨0, 100, a3_3, Nat.zero_le _, by omega, rfl, HB, BN, BO, BX, HI⟩
 clear HB BN BO BX HI
 obtain ⟨kk, p, m, hkk, hg, rfl, HB, BN, BO, BX, HI⟩ := hrel
 have hN := HI.out
 have HM0 := HM.out.2
 clear HI
 by_cases hlt : kk < l0_4.length
 rotate_left
 ·have hltz : ¬ (kk : Int) < (l0_4.length : Int) := by omega
  obtain rfl : kk = l0_4.length := by omega
  rw [List.drop_length, impI] at hN
  subst hN
  have hq := HR.out
  simp only [resI, Prod.mk.injEq] at hq
  obtain ⟨rfl, rfl, rfl, rfl, rfl⟩ := hq
  obtain ⟨cN0, cN1, cN2, cN3, cN4, cN5⟩ := box6 BN.out
  obtain ⟨cO0, cO1, cO2, cO3⟩ := box4 BO.out
  obtain ⟨cX0, cX1, cX2, cX3⟩ := box4 BX.out
  go_wp2_with (((with_reducible refine gate_store (t := 58) (p := 8) rfl ?_); have z0 := blk_frozen BO.out 0; have z1 := blk_frozen BO.out 1; have z2 := blk_frozen BO.out 2; have z3 := blk_frozen BO.out 3; refine store_event (t := 58) (p := 8) (v := .tmp 82) (w1 := ((((wr.setCell ⟨gO, 0, none⟩ (.int .i64 a2)).setCell ⟨gO, 1, none⟩ (.int .i64 p)).setCell ⟨gO, 2, none⟩ (.int .i64 (wrap64 (a3_2 + cost)))).setCell ⟨gO, 3, none⟩ (.bool m))) ?hg ?ho ?hn ?hr ?_; (case ho => rfl); (case hg => rfl); (case hn => rfl); (case hr => (go_simp; done)); clear z0 z1 z2 z3; clear cN0 cN1 cN2 cN3 cN4 cN5 cO0 cO1 cO2 cO3 cX0 cX1 cX2 cX3; intro wz hw_; obtain ⟨hbk, hkb, hkw⟩ := boxv4 (v0 := .int .i64 a2) (v1 := .int .i64 p) (v2 := .int .i64 (wrap64 (a3_2 + cost))) (v3 := .bool m) BO.out; rw [← hw_] at hbk hkb hkw; clear hw_; replace HB := aM (hkw _ HB.out GEO.out); replace BN := aM (blk_kept BN.out hkb (fun h_ => NENO.out h_)); replace BO := aM (hbk); replace BX := aM (blk_kept BX.out hkb (fun h_ => NEOX.out h_.symm)); clear hbk hkb hkw; obtain ⟨cN0, cN1, cN2, cN3, cN4, cN5⟩ := box6 BN.out; obtain ⟨cO0, cO1, cO2, cO3⟩ := box4 BO.out; obtain ⟨cX0, cX1, cX2, cX3⟩ := box4 BX.out))
  refine bodyPost_ret (results_ct rfl _ _ gO 58 #[.int .i64 a2, .int .i64 p, .int .i64 (wrap64 (a3_2 + cost)), .bool m] (0, 0) _ rfl BO.out Tryz.underlying58 rfl (by kernel_rfl)) rfl ?_
  exact ⟨rfl, HB.out⟩
 have hltz : (kk : Int) < (l0_4.length : Int) := by omega
 have hkc0 : (0 : Int) ≤ (kk : Int) := Int.natCast_nonneg _
 obtain ⟨ae, ea, hx0, hx1, hx2, hx3, hx4⟩ := at_T95 HN.out.2.2.2.2.2.2.2.2.1 (kk : Int) (by omega) (by omega)
 cases ea
 rw [Int.toNat_natCast] at hx0 hx1 hx2 hx3 hx4
 replace hx0 := swB HB.out hx0
 replace hx1 := swB HB.out hx1
 replace hx2 := swB HB.out hx2
 replace hx3 := swB HB.out hx3
 replace hx4 := swB HB.out hx4
 have hrd : rd_T95 l0_4 (kk : Int) = l0_4[kk] := by unfold rd_T95; simp [List.getD, hlt]
 rw [hrd] at hx0 hx1 hx2 hx3 hx4
 rw [List.drop_eq_getElem_cons hlt, impI] at hN
 have ew : IntKind.i64.wrap ((kk : Int) + 1) = ((kk + 1 : Nat) : Int) := IntWalk.i64_in _ (by omega)
 clear hrd
 generalize l0_4[kk] = x at hN hx0 hx1 hx2 hx3 hx4
 obtain ⟨x0, x1, x2, x3, x4⟩ := x
 dsimp only at hN hx0 hx1 hx2 hx3 hx4
 obtain ⟨cN0, cN1, cN2, cN3, cN4, cN5⟩ := box6 BN.out
 obtain ⟨cO0, cO1, cO2, cO3⟩ := box4 BO.out
 obtain ⟨cX0, cX1, cX2, cX3⟩ := box4 BX.out
 go_upto_region 5 with (first | ((with_reducible refine gate_dst (N := 12) rfl ?_); refine box_event rfl (N := 12) rfl (cs := #[.int .i64 0, .int .i64 0, .int .i64 0, .int .i64 0, .int .i64 0]) (t := 87) (by go_simp; done) ?_; intro gI hg_ wI hbox hbb; clear cN0 cN1 cN2 cN3 cN4 cN5 cO0 cO1 cO2 cO3 cX0 cX1 cX2 cX3; have GEI := aM (show w.heap.size ≤ gI by rw [hg_]; exact HB.out.size); have NENI := aM (show gN ≠ gI by rw [hg_]; exact Nat.ne_of_lt (blk_lt BN.out)); have NEOI := aM (show gO ≠ gI by rw [hg_]; exact Nat.ne_of_lt (blk_lt BO.out)); have NEXI := aM (show gX ≠ gI by rw [hg_]; exact Nat.ne_of_lt (blk_lt BX.out)); replace HB := aM (HB.out.trans (hbb.mono HB.out.size)); replace BN := aM (blk_below BN.out hbb); replace BO := aM (blk_below BO.out hbb); replace BX := aM (blk_below BX.out hbb); clear hbb hg_; have BI := aM hbox; clear hbox; obtain ⟨cN0, cN1, cN2, cN3, cN4, cN5⟩ := box6 BN.out; obtain ⟨cO0, cO1, cO2, cO3⟩ := box4 BO.out; obtain ⟨cX0, cX1, cX2, cX3⟩ := box4 BX.out; obtain ⟨cI0, cI1, cI2, cI3, cI4⟩ := box5 BI.out) | ((with_reducible refine gate_store (t := 87) (p := 12) rfl ?_); have z0 := blk_frozen BI.out 0; have z1 := blk_frozen BI.out 1; have z2 := blk_frozen BI.out 2; have z3 := blk_frozen BI.out 3; have z4 := blk_frozen BI.out 4; refine store_event (t := 87) (p := 12) (v := .tmp 35) (w1 := (((((wI.setCell ⟨gI, 0, none⟩ (.int .i64 x0)).setCell ⟨gI, 1, none⟩ (.int .i64 x1)).setCell ⟨gI, 2, none⟩ (.int .i64 x2)).setCell ⟨gI, 3, none⟩ (.int .i64 x3)).setCell ⟨gI, 4, none⟩ (.int .i64 x4))) ?hg ?ho ?hn ?hr ?_; (case ho => rfl); (case hg => rfl); (case hn => rfl); (case hr => (go_simp; done)); clear z0 z1 z2 z3 z4; clear cN0 cN1 cN2 cN3 cN4 cN5 cO0 cO1 cO2 cO3 cX0 cX1 cX2 cX3 cI0 cI1 cI2 cI3 cI4; intro w8 hw_; obtain ⟨hbk, hkb, hkw⟩ := boxv5 (v0 := .int .i64 x0) (v1 := .int .i64 x1) (v2 := .int .i64 x2) (v3 := .int .i64 x3) (v4 := .int .i64 x4) BI.out; rw [← hw_] at hbk hkb hkw; clear hw_; replace HB := aM (hkw _ HB.out GEI.out); replace BN := aM (blk_kept BN.out hkb (fun h_ => NENI.out h_)); replace BO := aM (blk_kept BO.out hkb (fun h_ => NEOI.out h_)); replace BX := aM (blk_kept BX.out hkb (fun h_ => NEXI.out h_)); replace BI := aM (hbk); clear hbk hkb hkw; obtain ⟨cN0, cN1, cN2, cN3, cN4, cN5⟩ := box6 BN.out; obtain ⟨cO0, cO1, cO2, cO3⟩ := box4 BO.out; obtain ⟨cX0, cX1, cX2, cX3⟩ := box4 BX.out; obtain ⟨cI0, cI1, cI2, cI3, cI4⟩ := box5 BI.out))
 clear hx0 hx1 hx2 hx3 hx4 cN0 cN1 cN2 cN3 cN4 cN5 cO0 cO1 cO2 cO3 cX0 cX1 cX2 cX3 cI0 cI1 cI2 cI3 cI4
 have HW : ∀ W, Below w8.heap.size w8 W → Below w.heap.size w W := fun W hW => HB.out.trans (hW.mono HB.out.size)
 have dN := fun (W : World) (hW : Below w8.heap.size w8 W) => blk_below BN.out hW
 have dO := fun (W : World) (hW : Below w8.heap.size w8 W) => blk_below BO.out hW
 have dX := fun (W : World) (hW : Below w8.heap.size w8 W) => blk_below BX.out hW
 have dI := fun (W : World) (hW : Below w8.heap.size w8 W) => blk_below BI.out hW
 refine seq_tail (R := []) [some 36, some 37, some 38, some 39, some 40, some 41, some 42, some 43, some 44, some 45, some 46, some 47, some 48, some 49, some 50, some 51, some 52, some 53, some 54, some 55, some 56, some 57, some 58, some 59, some 60, some 61, some 62, some 63, some 64] 83 29 [VP.eq (.pointer (some ⟨gI, 0, none⟩)), VP.eq (.int .i64 (x0)), VP.eq (.int .i64 (a1)), VP.eq (.bool ((x0 != a1))), VP.eq (.bool ((x0 != a1))), VP.eq (cond (((x0 != a1) == false)) (.pointer (some ⟨gI, 1, none⟩)) undef), VP.eq (cond (((x0 != a1) == false)) (.int .i64 (x1)) undef), VP.eq (cond (((x0 != a1) == false)) (.int .i64 (a2)) undef), VP.eq (cond (((x0 != a1) == false)) (.bool ((x1 != a2))) undef), VP.eq (.bool (((x0 != a1) || (x1 != a2)))), VP.eq (.bool (((x0 != a1) || (x1 != a2)))), VP.eq (cond ((((x0 != a1) || (x1 != a2)) == false)) (.pointer (some ⟨gI, 2, none⟩)) undef), VP.eq (cond ((((x0 != a1) || (x1 != a2)) == false)) (.int .i64 (x2)) undef), VP.eq (cond ((((x0 != a1) || (x1 != a2)) == false)) (.bool ((x2 == 1))) undef), VP.eq (cond ((((x0 != a1) || (x1 != a2)) == false)) (.bool ((x2 == 1))) undef), VP.eq (cond (((((x0 != a1) || (x1 != a2)) == false) && ((x2 == 1) == true))) (.pointer (some ⟨gX, 3, none⟩)) undef), VP.eq (cond (((((x0 != a1) || (x1 != a2)) == false) && ((x2 == 1) == true))) (.bool (m)) undef), VP.eq (cond (((((x0 != a1) || (x1 != a2)) == false) && ((x2 == 1) == true))) (.bool ((!m))) undef), VP.eq (cond ((((x0 != a1) || (x1 != a2)) == false)) (.bool (((x2 == 1) && (!m)))) undef), VP.eq (.bool ((((x0 != a1) || (x1 != a2)) || ((x2 == 1) && (!m))))), VP.eq (.bool ((((x0 != a1) || (x1 != a2)) || ((x2 == 1) && (!m))))), VP.eq (cond (((((x0 != a1) || (x1 != a2)) || ((x2 == 1) && (!m))) == false)) (.pointer (some ⟨gI, 2, none⟩)) undef), VP.eq (cond (((((x0 != a1) || (x1 != a2)) || ((x2 == 1) && (!m))) == false)) (.int .i64 (x2)) undef), VP.eq (cond (((((x0 != a1) || (x1 != a2)) || ((x2 == 1) && (!m))) == false)) (.bool ((x2 == 2))) undef), VP.eq (cond (((((x0 != a1) || (x1 != a2)) || ((x2 == 1) && (!m))) == false)) (.bool ((x2 == 2))) undef), VP.eq (cond ((((((x0 != a1) || (x1 != a2)) || ((x2 == 1) && (!m))) == false) && ((x2 == 2) == true))) (.pointer (some ⟨gX, 3, none⟩)) undef), VP.eq (cond ((((((x0 != a1) || (x1 != a2)) || ((x2 == 1) && (!m))) == false) && ((x2 == 2) == true))) (.bool (m)) undef), VP.eq (cond (((((x0 != a1) || (x1 != a2)) || ((x2 == 1) && (!m))) == false)) (.bool (((x2 == 2) && m))) undef), VP.eq (.bool (((((x0 != a1) || (x1 != a2)) || ((x2 == 1) && (!m))) || ((x2 == 2) && m))))] rfl rfl (by kernel_rfl) rfl ⟨?_, ?_, ?_, ?_, ?_, ?_, ?_, ?_, ?_, ?_, ?_, ?_, ?_, ?_, ?_, ?_, ?_, ?_, ?_, ?_, ?_, ?_, ?_, ?_, ?_, ?_, ?_, ?_, ?_, trivial⟩ ?_
 ·exact fun _ W _ hW _ hb hd _ hK _ => gn_ hK (x_fa95 rfl (oD (by kernel_rfl)) (hb 12))
 ·exact fun _ W _ hW _ hb hd _ hK _ => gn_ hK (x_ld3 rfl (hd 0 36) ((blk_cell (dI W hW) 0).trans rfl))
 ·exact fun _ W _ hW _ hb hd _ hK _ => gn_ hK (x_move rfl (hb 1))
 ·exact fun _ W _ hW _ hb hd _ hK _ => gn_ hK (x_neq rfl (hd 1 37) (hd 2 38))
 ·exact fun _ W _ hW _ hb hd _ hK _ => gn_ hK (x_move rfl (hd 3 39))
 ·exact fun _ W _ hW _ hb hd _ hK _ => gw_ hK (hd 4 40) fun hC => x_fa95 rfl (oD (by kernel_rfl)) (hb 12)
 ·exact fun _ W _ hW _ hb hd _ hK _ => gw_ hK (hd 4 40) fun hC => x_ld3 rfl (cnd (hd 5 41) hC) ((blk_cell (dI W hW) 1).trans rfl)
 ·exact fun _ W _ hW _ hb hd _ hK _ => gw_ hK (hd 4 40) fun hC => x_move rfl (hb 2)
 ·exact fun _ W _ hW _ hb hd _ hK _ => gw_ hK (hd 4 40) fun hC => x_neq rfl (cnd (hd 6 42) hC) (cnd (hd 7 43) hC)
 ·exact fun _ W _ hW _ hb hd _ hK _ => gn_ hK (x_or rfl (hd 4 40) (hd 8 44))
 ·exact fun _ W _ hW _ hb hd _ hK _ => gn_ hK (x_move rfl (hd 9 45))
 ·exact fun _ W _ hW _ hb hd _ hK _ => gw_ hK (hd 10 46) fun hC => x_fa95 rfl (oD (by kernel_rfl)) (hb 12)
 ·exact fun _ W _ hW _ hb hd _ hK _ => gw_ hK (hd 10 46) fun hC => x_ld3 rfl (cnd (hd 11 47) hC) ((blk_cell (dI W hW) 2).trans rfl)
 ·exact fun _ W _ hW _ hb hd _ hK _ => gw_ hK (hd 10 46) fun hC => x_eql rfl (cnd (hd 12 48) hC) rfl
 ·exact fun _ W _ hW _ hb hd _ hK _ => gw_ hK (hd 10 46) fun hC => x_move rfl (cnd (hd 13 49) hC)
 ·exact fun _ W _ hW _ hb hd _ hK _ => gd_step (wg (hd 14 50)) (fun hC => x_fa80 rfl (oD (by kernel_rfl)) (hb 10)) (hK _ W rfl (Below.refl _ _))
 ·exact fun _ W _ hW _ hb hd _ hK _ => gd_step (wg (hd 14 50)) (fun hC => x_ld4 rfl (cnd (hd 15 51) hC) ((blk_cell (dX W hW) 3).trans rfl)) (hK _ W rfl (Below.refl _ _))
 ·exact fun _ W _ hW _ hb hd _ hK _ => gd_step (wg (hd 14 50)) (fun hC => x_not rfl (cnd (hd 16 52) hC)) (hK _ W rfl (Below.refl _ _))
 ·exact fun _ W _ hW _ hb hd _ hK _ => gw_ hK (hd 10 46) fun hC => x_and rfl (cnd (hd 14 50) hC) (cnd_and (hd 17 53) hC)
 ·exact fun _ W _ hW _ hb hd _ hK _ => gn_ hK (x_or rfl (hd 10 46) (hd 18 54))
 ·exact fun _ W _ hW _ hb hd _ hK _ => gn_ hK (x_move rfl (hd 19 55))
 ·exact fun _ W _ hW _ hb hd _ hK _ => gw_ hK (hd 20 56) fun hC => x_fa95 rfl (oD (by kernel_rfl)) (hb 12)
 ·exact fun _ W _ hW _ hb hd _ hK _ => gw_ hK (hd 20 56) fun hC => x_ld3 rfl (cnd (hd 21 57) hC) ((blk_cell (dI W hW) 2).trans rfl)
 ·exact fun _ W _ hW _ hb hd _ hK _ => gw_ hK (hd 20 56) fun hC => x_eql rfl (cnd (hd 22 58) hC) rfl
 ·exact fun _ W _ hW _ hb hd _ hK _ => gw_ hK (hd 20 56) fun hC => x_move rfl (cnd (hd 23 59) hC)
 ·exact fun _ W _ hW _ hb hd _ hK _ => gd_step (wg (hd 24 60)) (fun hC => x_fa80 rfl (oD (by kernel_rfl)) (hb 10)) (hK _ W rfl (Below.refl _ _))
 ·exact fun _ W _ hW _ hb hd _ hK _ => gd_step (wg (hd 24 60)) (fun hC => x_ld4 rfl (cnd (hd 25 61) hC) ((blk_cell (dX W hW) 3).trans rfl)) (hK _ W rfl (Below.refl _ _))
 ·exact fun _ W _ hW _ hb hd _ hK _ => gw_ hK (hd 20 56) fun hC => x_and rfl (cnd (hd 24 60) hC) (cnd_and (hd 26 62) hC)
 ·exact fun _ W _ hW _ hb hd _ hK _ => gn_ hK (x_or rfl (hd 20 56) (hd 27 63))
 intro vals F W B hF hW hBB hV
 have hf : vals 64 = .bool (((((x0 != a1) || (x1 != a2)) || ((x2 == 1) && (!m))) || ((x2 == 2) && m))) := hV 28 64 (oD (by kernel_rfl)) rfl
 replace HB := aM (HW W hW)
 replace BN := aM (dN W hW)
 replace BO := aM (dO W hW)
 replace BX := aM (dX W hW)
 replace BI := aM (dI W hW)
 clear hW HW dN dO dX dI
 rw [hF]
 clear hF hV hBB
 simp only [cond_true, List.take, fillA, Act.put, List.setIfInBounds_toArray, List.set_cons_zero, List.set_cons_succ, hf]
 clear hf
 cases hSK : ((((x0 != a1) || (x1 != a2)) || ((x2 == 1) && (!m))) || ((x2 == 2) && m)) with
 | true =>
  rw [if_pos hSK] at hN
  have HI := aM hN
  clear hN
  obtain ⟨cN0, cN1, cN2, cN3, cN4, cN5⟩ := box6 BN.out
  obtain ⟨cO0, cO1, cO2, cO3⟩ := box4 BO.out
  obtain ⟨cX0, cX1, cX2, cX3⟩ := box4 BX.out
  obtain ⟨cI0, cI1, cI2, cI3, cI4⟩ := box5 BI.out
  go_wp2
  go_roundg (l0_4.length - (kk + 1))
  case measure => omega
  case rel => exact ⟨kk + 1, p, m, by omega, by omega, by go_num, HB, BN, BO, BX, HI⟩
 | false =>
  rw [if_neg (by rw [hSK]; exact Bool.false_ne_true)] at hN
  cases h1 : (x3 == 1) with
  | true =>
   rw [h1, if_pos rfl] at hN
   subst hN
   have hq := HR.out
   simp only [resI, Prod.mk.injEq] at hq
   obtain ⟨rfl, rfl, rfl, rfl, rfl⟩ := hq
   obtain ⟨cN0, cN1, cN2, cN3, cN4, cN5⟩ := box6 BN.out
   obtain ⟨cO0, cO1, cO2, cO3⟩ := box4 BO.out
   obtain ⟨cX0, cX1, cX2, cX3⟩ := box4 BX.out
   obtain ⟨cI0, cI1, cI2, cI3, cI4⟩ := box5 BI.out
   go_wp2_with (((with_reducible refine gate_store (t := 58) (p := 8) rfl ?_); have z0 := blk_frozen BO.out 0; have z1 := blk_frozen BO.out 1; have z2 := blk_frozen BO.out 2; have z3 := blk_frozen BO.out 3; refine store_event (t := 58) (p := 8) (v := .tmp 69) (w1 := ((((W.setCell ⟨gO, 0, none⟩ (.int .i64 0)).setCell ⟨gO, 1, none⟩ (.int .i64 0)).setCell ⟨gO, 2, none⟩ (.int .i64 0)).setCell ⟨gO, 3, none⟩ (.bool false))) ?hg ?ho ?hn ?hr ?_; (case ho => rfl); (case hg => rfl); (case hn => rfl); (case hr => (go_simp; done)); clear z0 z1 z2 z3; clear cN0 cN1 cN2 cN3 cN4 cN5 cO0 cO1 cO2 cO3 cX0 cX1 cX2 cX3 cI0 cI1 cI2 cI3 cI4; intro wz hw_; obtain ⟨hbk, hkb, hkw⟩ := boxv4 (v0 := .int .i64 0) (v1 := .int .i64 0) (v2 := .int .i64 0) (v3 := .bool false) BO.out; rw [← hw_] at hbk hkb hkw; clear hw_; replace HB := aM (hkw _ HB.out GEO.out); replace BN := aM (blk_kept BN.out hkb (fun h_ => NENO.out h_)); replace BO := aM (hbk); replace BX := aM (blk_kept BX.out hkb (fun h_ => NEOX.out h_.symm)); replace BI := aM (blk_kept BI.out hkb (fun h_ => NEOI.out h_.symm)); clear hbk hkb hkw; obtain ⟨cN0, cN1, cN2, cN3, cN4, cN5⟩ := box6 BN.out; obtain ⟨cO0, cO1, cO2, cO3⟩ := box4 BO.out; obtain ⟨cX0, cX1, cX2, cX3⟩ := box4 BX.out; obtain ⟨cI0, cI1, cI2, cI3, cI4⟩ := box5 BI.out))
   refine bodyPost_ret (results_ct rfl _ _ gO 58 #[.int .i64 0, .int .i64 0, .int .i64 0, .bool false] (0, 0) _ rfl BO.out Tryz.underlying58 rfl (by kernel_rfl)) rfl ?_
   exact ⟨rfl, HB.out⟩
  | false =>
   rw [h1, if_neg Bool.false_ne_true] at hN
   cases h2 : (x3 == 2) with
   | true =>
    rw [h2, if_pos rfl] at hN
    have HI := aM hN
    clear hN
    obtain ⟨cN0, cN1, cN2, cN3, cN4, cN5⟩ := box6 BN.out
    obtain ⟨cO0, cO1, cO2, cO3⟩ := box4 BO.out
    obtain ⟨cX0, cX1, cX2, cX3⟩ := box4 BX.out
    obtain ⟨cI0, cI1, cI2, cI3, cI4⟩ := box5 BI.out
    go_wp2_with (((with_reducible refine gate_store (t := 3) (p := 74) rfl ?_); have z0 := blk_frozen BX.out 1; refine store_event (t := 3) (p := 74) (v := .tmp 73) (w1 := W.setCell ⟨gX, 1, none⟩ (.int .i64 x4)) ?hg ?ho ?hn ?hr ?_; (case ho => rfl); (case hg => rfl); (case hn => rfl); (case hr => (go_simp; done)); clear z0; clear cN0 cN1 cN2 cN3 cN4 cN5 cO0 cO1 cO2 cO3 cX0 cX1 cX2 cX3 cI0 cI1 cI2 cI3 cI4; intro wz hw_; obtain ⟨hbk, hkb, hkw⟩ := boxf (i := 1) (v := .int .i64 x4) (cs' := #[.int .i64 a2, .int .i64 x4, .int .i64 (wrap64 (a3_2 + cost)), .bool m]) BX.out rfl; rw [← hw_] at hbk hkb hkw; clear hw_; replace HB := aM (hkw _ HB.out GEX.out); replace BN := aM (blk_kept BN.out hkb (fun h_ => NENX.out h_)); replace BO := aM (blk_kept BO.out hkb (fun h_ => NEOX.out h_)); replace BX := aM (hbk); replace BI := aM (blk_kept BI.out hkb (fun h_ => NEXI.out h_.symm)); clear hbk hkb hkw; obtain ⟨cN0, cN1, cN2, cN3, cN4, cN5⟩ := box6 BN.out; obtain ⟨cO0, cO1, cO2, cO3⟩ := box4 BO.out; obtain ⟨cX0, cX1, cX2, cX3⟩ := box4 BX.out; obtain ⟨cI0, cI1, cI2, cI3, cI4⟩ := box5 BI.out))
    go_roundg (l0_4.length - (kk + 1))
    case measure => omega
    case rel => exact ⟨kk + 1, x4, m, by omega, by omega, by go_num, HB, BN, BO, BX, HI⟩
   | false =>
    rw [h2, if_neg Bool.false_ne_true] at hN
    cases h3 : (x3 == 3) with
    | true =>
     rw [h3, if_pos rfl] at hN
     have HI := aM hN
     clear hN
     obtain ⟨cN0, cN1, cN2, cN3, cN4, cN5⟩ := box6 BN.out
     obtain ⟨cO0, cO1, cO2, cO3⟩ := box4 BO.out
     obtain ⟨cX0, cX1, cX2, cX3⟩ := box4 BX.out
     obtain ⟨cI0, cI1, cI2, cI3, cI4⟩ := box5 BI.out
     go_wp2_with (((with_reducible refine gate_store (t := 4) (p := 77) rfl ?_); have z0 := blk_frozen BX.out 3; refine store_event (t := 4) (p := 77) (v := .const (.bool true)) (w1 := W.setCell ⟨gX, 3, none⟩ (.bool true)) ?hg ?ho ?hn ?hr ?_; (case ho => rfl); (case hg => rfl); (case hn => rfl); (case hr => (go_simp; done)); clear z0; clear cN0 cN1 cN2 cN3 cN4 cN5 cO0 cO1 cO2 cO3 cX0 cX1 cX2 cX3 cI0 cI1 cI2 cI3 cI4; intro wz hw_; obtain ⟨hbk, hkb, hkw⟩ := boxf (i := 3) (v := .bool true) (cs' := #[.int .i64 a2, .int .i64 p, .int .i64 (wrap64 (a3_2 + cost)), .bool true]) BX.out rfl; rw [← hw_] at hbk hkb hkw; clear hw_; replace HB := aM (hkw _ HB.out GEX.out); replace BN := aM (blk_kept BN.out hkb (fun h_ => NENX.out h_)); replace BO := aM (blk_kept BO.out hkb (fun h_ => NEOX.out h_)); replace BX := aM (hbk); replace BI := aM (blk_kept BI.out hkb (fun h_ => NEXI.out h_.symm)); clear hbk hkb hkw; obtain ⟨cN0, cN1, cN2, cN3, cN4, cN5⟩ := box6 BN.out; obtain ⟨cO0, cO1, cO2, cO3⟩ := box4 BO.out; obtain ⟨cX0, cX1, cX2, cX3⟩ := box4 BX.out; obtain ⟨cI0, cI1, cI2, cI3, cI4⟩ := box5 BI.out))
     go_roundg (l0_4.length - (kk + 1))
     case measure => omega
     case rel => exact ⟨kk + 1, p, true, by omega, by omega, by go_num, HB, BN, BO, BX, HI⟩
    | false =>
     rw [h3, if_neg Bool.false_ne_true] at hN
     cases h4 : (x3 == 4) with
     | true =>
      rw [h4, if_pos rfl] at hN
      have HI := aM hN
      clear hN
      obtain ⟨cN0, cN1, cN2, cN3, cN4, cN5⟩ := box6 BN.out
      obtain ⟨cO0, cO1, cO2, cO3⟩ := box4 BO.out
      obtain ⟨cX0, cX1, cX2, cX3⟩ := box4 BX.out
      obtain ⟨cI0, cI1, cI2, cI3, cI4⟩ := box5 BI.out
      go_wp2_with (((with_reducible refine gate_store (t := 4) (p := 80) rfl ?_); have z0 := blk_frozen BX.out 3; refine store_event (t := 4) (p := 80) (v := .const (.bool false)) (w1 := W.setCell ⟨gX, 3, none⟩ (.bool false)) ?hg ?ho ?hn ?hr ?_; (case ho => rfl); (case hg => rfl); (case hn => rfl); (case hr => (go_simp; done)); clear z0; clear cN0 cN1 cN2 cN3 cN4 cN5 cO0 cO1 cO2 cO3 cX0 cX1 cX2 cX3 cI0 cI1 cI2 cI3 cI4; intro wz hw_; obtain ⟨hbk, hkb, hkw⟩ := boxf (i := 3) (v := .bool false) (cs' := #[.int .i64 a2, .int .i64 p, .int .i64 (wrap64 (a3_2 + cost)), .bool false]) BX.out rfl; rw [← hw_] at hbk hkb hkw; clear hw_; replace HB := aM (hkw _ HB.out GEX.out); replace BN := aM (blk_kept BN.out hkb (fun h_ => NENX.out h_)); replace BO := aM (blk_kept BO.out hkb (fun h_ => NEOX.out h_)); replace BX := aM (hbk); replace BI := aM (blk_kept BI.out hkb (fun h_ => NEXI.out h_.symm)); clear hbk hkb hkw; obtain ⟨cN0, cN1, cN2, cN3, cN4, cN5⟩ := box6 BN.out; obtain ⟨cO0, cO1, cO2, cO3⟩ := box4 BO.out; obtain ⟨cX0, cX1, cX2, cX3⟩ := box4 BX.out; obtain ⟨cI0, cI1, cI2, cI3, cI4⟩ := box5 BI.out))
      go_roundg (l0_4.length - (kk + 1))
      case measure => omega
      case rel => exact ⟨kk + 1, p, false, by omega, by omega, by go_num, HB, BN, BO, BX, HI⟩
     | false =>
      rw [h4, if_neg Bool.false_ne_true] at hN
      have HI := aM hN
      clear hN
      obtain ⟨cN0, cN1, cN2, cN3, cN4, cN5⟩ := box6 BN.out
      obtain ⟨cO0, cO1, cO2, cO3⟩ := box4 BO.out
      obtain ⟨cX0, cX1, cX2, cX3⟩ := box4 BX.out
      obtain ⟨cI0, cI1, cI2, cI3, cI4⟩ := box5 BI.out
      go_wp2
      go_roundg (l0_4.length - (kk + 1))
      case measure => omega
      case rel => exact ⟨kk + 1, p, m, by omega, by omega, by go_num, HB, BN, BO, BX, HI⟩
end Go.Proofs.YtgibacfgjmdjdaaGreat.PFnExactIsStable
end
section
namespace Go.Proofs.YtgibacfgjmdjdaaGreat.PFnExactIsStable
open Go.RowKit Go.Proofs.YtgibacfgjmdjdaaGreatW.PrintWords Go.Proofs.YtgibacfgjmdjdaaGreatW.PrintLast Go.Proofs.YtgibacfgjmdjdaaGreatW.PrintMore
attribute [local go_sem] max2_int min2_int max_two min_two max_three min_three max_four min_four   -- for this text's walks alone
set_option linter.unusedVariables false
set_option linter.unusedSimpArgs false
mutual
def impl_candidates.j0 : Nat → Int → List Int → List Bool → List (S80) → List (S80) → List ByteArray → List (S92) → List Int → List Int → List (S95) → List (S97) → Option ((List (S80)))
 | 0, _, _, _, _, _, _, _, _, _, _, _ => none
 | k + 1, x1, x2, x3, x4, x11, x344000, x344001, x344002, x344003, x344004, x344005 => (impl_outRoute.f k x344000 x344001 x344002 x344003 x344004 x344005 x2 x1).bind fun bt353 => (if bt353.2.2.2.2 = true then (if x11.length < 4398046511104 then (impl_candidates.j1 k x1 x3 x4 (x11 ++ [(⟨bt353.1, bt353.2.1, bt353.2.2.1, bt353.2.2.2.1⟩ : S80)]) x344000 x344001 x344002 x344003 x344004 x344005) else (none)) else (impl_candidates.j1 k x1 x3 x4 x11 x344000 x344001 x344002 x344003 x344004 x344005))
def impl_candidates.j1 : Nat → Int → List Bool → List (S80) → List (S80) → List ByteArray → List (S92) → List Int → List Int → List (S95) → List (S97) → Option ((List (S80)))
 | 0, _, _, _, _, _, _, _, _, _, _ => none
 | k + 1, x1, x3, x4, x11, x344000, x344001, x344002, x344003, x344004, x344005 => (impl_neighbours.f k x344000 x344001 x344002 x344003 x344004 x344005 x1 x3).bind fun t362 => (impl_candidates.l0 k x1 x4 x11 t362 (t362.length : Int) 0 x344000 x344001 x344002 x344003 x344004 x344005)
def impl_candidates.l0 : Nat → Int → List (S80) → List (S80) → List Int → Int → Int → List ByteArray → List (S92) → List Int → List Int → List (S95) → List (S97) → Option ((List (S80)))
 | 0, _, _, _, _, _, _, _, _, _, _, _, _ => none
 | k + 1, x1, x4, x11, x46, x47, x48, x344000, x344001, x344002, x344003, x344004, x344005 => if x48 < x47 then (if 0 ≤ x48 then (if x48 < (x46.length : Int) then (if 0 ≤ (rd x46 x48) then (if (rd x46 x48) < (x4.length : Int) then (if ((rd_T80 x4 (rd x46 x48)).f0) = (-3) then (impl_candidates.j3 k x1 x4 x11 (rd x46 x48) x46 x47 x48 true x344000 x344001 x344002 x344003 x344004 x344005) else ((impl_comesTo.f k x4 (rd x46 x48) x1).bind fun t367 => (impl_candidates.j3 k x1 x4 x11 (rd x46 x48) x46 x47 x48 t367 x344000 x344001 x344002 x344003 x344004 x344005))) else (none)) else (none)) else (none)) else (none)) else (some x11)
def impl_candidates.j3 : Nat → Int → List (S80) → List (S80) → Int → List Int → Int → Int → Bool → List ByteArray → List (S92) → List Int → List Int → List (S95) → List (S97) → Option ((List (S80)))
 | 0, _, _, _, _, _, _, _, _, _, _, _, _, _, _ => none
 | k + 1, x1, x4, x11, x17, x46, x47, x48, x63, x344000, x344001, x344002, x344003, x344004, x344005 => if x63 = true then (impl_candidates.l0 k x1 x4 x11 x46 x47 (wrap64 (x48 + 1)) x344000 x344001 x344002 x344003 x344004 x344005) else (if 0 ≤ x17 then (if x17 < (x4.length : Int) then ((impl_imported.f k x344000 x344001 x344002 x344003 x344004 x344005 x1 x17 ((rd_T80 x4 x17).f0) ((rd_T80 x4 x17).f1) ((rd_T80 x4 x17).f2) ((rd_T80 x4 x17).f3)).bind fun bt369 => (if bt369.2.2.2.2 = true then (if x11.length < 4398046511104 then (impl_candidates.l0 k x1 x4 (x11 ++ [(⟨bt369.1, bt369.2.1, bt369.2.2.1, bt369.2.2.2.1⟩ : S80)]) x46 x47 (wrap64 (x48 + 1)) x344000 x344001 x344002 x344003 x344004 x344005) else (none)) else (impl_candidates.l0 k x1 x4 x11 x46 x47 (wrap64 (x48 + 1)) x344000 x344001 x344002 x344003 x344004 x344005))) else (none)) else (none))
end
def impl_candidates.f (k : Nat) (l0_0 : List ByteArray) (l0_1 : List (S92)) (l0_2 : List Int) (l0_3 : List Int) (l0_4 : List (S95)) (l0_5 : List (S97)) (a1 : Int) (l2 : List Int) (l3 : List Bool) (l4 : List (S80)) : Option ((List (S80))) := (impl_ownRoute.f k l0_0 l0_1 l0_2 l0_3 l0_4 l0_5 a1).bind fun bt344 => (if bt344.2.2.2.2 = true then (if ([] : List (S80)).length < 4398046511104 then (impl_candidates.j0 k a1 l2 l3 l4 (([] : List (S80)) ++ [(⟨bt344.1, bt344.2.1, bt344.2.2.1, bt344.2.2.2.1⟩ : S80)]) l0_0 l0_1 l0_2 l0_3 l0_4 l0_5) else (none)) else (impl_candidates.j0 k a1 l2 l3 l4 ([] : List (S80)) l0_0 l0_1 l0_2 l0_3 l0_4 l0_5))
def impl_candidates.T12 : Bool × List (List Nat × List Nat) := (true, [([], []), ([], []), ([], []), ([], []), ([], []), ([3, 4], [3, 4]), ([5], [5]), ([0, 1, 2, 6], [0, 1, 2, 6]), ([7], [7]), ([8], [8]), ([8], [8]), ([], []), ([11, 9, 7, 0, 1, 2, 3, 4, 5, 6, 7, 8, 9, 11], [9, 11]), ([10, 12, 0, 1, 2, 3, 4, 5, 6, 7, 8, 9, 10, 11, 12], [10])])
def impl_candidates.B12 : List Nat := [0, 0, 0, 0, 0, 24, 56, 127, 255, 511, 511, 0, 3071, 8191]
theorem impl_candidates.tab12 : rtab .any (opsOf Tryz.f62 12) = impl_candidates.T12 := by kernel_rfl
theorem impl_candidates.bits12 : waitsOk impl_candidates.T12.2 impl_candidates.B12 = true := by kernel_rfl
set_option maxHeartbeats 8000000 in
set_option maxRecDepth 100000 in
theorem impl_candidates.calls (k A0_0 c0_0 l0_0 A0_1 c0_1 l0_1 A0_2 c0_2 l0_2 A0_3 c0_3 l0_3 A0_4 c0_4 l0_4 A0_5 c0_5 l0_5 a1 A2 c2 l2 A3 c3 l3 A4 c4 l4 r w) (hr0_0 : Kd.C Kd.string w A0_0 l0_0.length l0_0) (hc0_0 : l0_0.length ≤ c0_0) (hr0_1 : Kd.C k92 w A0_1 l0_1.length l0_1) (hc0_1 : l0_1.length ≤ c0_1) (hr0_2 : Kd.C (Kd.int .i64) w A0_2 l0_2.length l0_2) (hc0_2 : l0_2.length ≤ c0_2) (hr0_3 : Kd.C (Kd.int .i64) w A0_3 l0_3.length l0_3) (hc0_3 : l0_3.length ≤ c0_3) (hr0_4 : Kd.C k95 w A0_4 l0_4.length l0_4) (hc0_4 : l0_4.length ≤ c0_4) (hr0_5 : Kd.C k97 w A0_5 l0_5.length l0_5) (hc0_5 : l0_5.length ≤ c0_5) (hr2 : Kd.C (Kd.int .i64) w A2 l2.length l2) (hc2 : l2.length ≤ c2) (hr3 : Kd.C Kd.bool w A3 l3.length l3) (hc3 : l3.length ≤ c3) (hr4 : Kd.C k80 w A4 l4.length l4) (hc4 : l4.length ≤ c4) (h : impl_candidates.f k l0_0 l0_1 l0_2 l0_3 l0_4 l0_5 a1 l2 l3 l4 = some r) :
  Calls Tryz.prog 62 #[.agg #[.slice A0_0 l0_0.length c0_0, .slice A0_1 l0_1.length c0_1, .slice A0_2 l0_2.length c0_2, .slice A0_3 l0_3.length c0_3, .slice A0_4 l0_4.length c0_4, .slice A0_5 l0_5.length c0_5], .int .i64 a1, .slice A2 l2.length c2, .slice A3 l3.length c3, .slice A4 l4.length c4] w fun e w' => ∃ v0_ : Value, e = .returned (v0_) ∧ Kd.R k80 58 w' w.heap.size (fun _ => True) v0_ r ∧ Below w.heap.size w w' := by
 have hu38 := Tryz.underlying38
 have hu80 := Tryz.underlying58
 obtain ⟨HR0_0, HC0_0, HR0_1, HC0_1, HR0_2, HC0_2, HR0_3, HC0_3, HR0_4, HC0_4, HR0_5, HC0_5⟩ := as12 hr0_0 hc0_0 hr0_1 hc0_1 hr0_2 hc0_2 hr0_3 hc0_3 hr0_4 hc0_4 hr0_5 hc0_5
 clear hr0_0 hc0_0 hr0_1 hc0_1 hr0_2 hc0_2 hr0_3 hc0_3 hr0_4 hc0_4 hr0_5 hc0_5
 have HR2 := aM hr2
 have HC2 := aM hc2
 clear hr2 hc2
 have HR3 := aM hr3
 have HC3 := aM hc3
 clear hr3 hc3
 have HR4 := aM hr4
 have HC4 := aM hc4
 clear hr4 hc4
 have HB := aM (Below.refl w.heap.size w)
 have H : ((impl_ownRoute.f k l0_0 l0_1 l0_2 l0_3 l0_4 l0_5 a1).bind fun bt344 => (if bt344.2.2.2.2 = true then (if ([] : List (S80)).length < 4398046511104 then (impl_candidates.j0 k a1 l2 l3 l4 (([] : List (S80)) ++ [(⟨bt344.1, bt344.2.1, bt344.2.2.1, bt344.2.2.2.1⟩ : S80)]) l0_0 l0_1 l0_2 l0_3 l0_4 l0_5) else (none)) else (impl_candidates.j0 k a1 l2 l3 l4 ([] : List (S80)) l0_0 l0_1 l0_2 l0_3 l0_4 l0_5))) = some r := h
 clear h
 obtain ⟨⟨t344, t345, t346, t347, t348⟩, A6, H⟩ := bA_ H
 have HC7 := aM H
 clear H
 go_enter Tryz.func62, Tryz.ntmps62
 go_upto_if 26 with (first | ((with_reducible refine gate_dst (N := 5) rfl ?_); refine bxE HB ?_; intro gb343 hg w8 hb BK343 GW343 GE343 HB; clear hb hg; obtain ⟨hcz9_0, hcz9_1, hcz9_2, hcz9_3, hcz9_4, hcz9_5⟩ := swc6 BK343.out; obtain ⟨hfz9_0, hfz9_1, hfz9_2, hfz9_3, hfz9_4, hfz9_5⟩ := swf6 BK343.out) | (go_at_call 86; (with_reducible refine (impl_ownRoute.calls k _ _ l0_0 _ _ l0_1 _ _ l0_2 _ _ l0_3 _ _ l0_4 _ _ l0_5 a1 t344 t345 t346 t347 t348 _ (Kd.C_below HR0_0.out HB.out) HC0_0.out (Kd.C_below HR0_1.out HB.out) HC0_1.out (Kd.C_below HR0_2.out HB.out) HC0_2.out (Kd.C_below HR0_3.out HB.out) HC0_3.out (Kd.C_below HR0_4.out HB.out) HC0_4.out (Kd.C_below HR0_5.out HB.out) HC0_5.out A6.out).mono ?_); rintro e w10 ⟨rfl, hb⟩; replace BK343 := aK BK343 hb; replace HB := aB HB hb; (try clear hb)) | ((with_reducible refine gate_dst (N := 12) rfl ?_); refine bxE HB ?_; intro gb349 hg w11 hb BK349 GW349 GE349 HB; have NB343_349 := bLT BK343.out hg; have NB349_343 := bGT BK343.out hg; replace BK343 := aK BK343 hb; clear hb hg; have hnb12 := NB349_343.out; have hnc12 := NB343_349.out; obtain ⟨hcz13_0, hcz13_1, hcz13_2, hcz13_3⟩ := swc4 BK349.out; obtain ⟨hfz13_0, hfz13_1, hfz13_2, hfz13_3⟩ := swf4 BK349.out))
 (try simp only [Act.put, List.setIfInBounds_toArray, List.set_cons_zero, List.set_cons_succ])
 go_cut [11] (fun v11 wc => ∃ (kq : Nat) (x11_6 : List (S80)), Aside0 (impl_candidates.j0 kq a1 l2 l3 l4 x11_6 l0_0 l0_1 l0_2 l0_3 l0_4 l0_5 = some r) ∧ Aside0 (kq ≤ k) ∧ Aside0 (Kd.R k80 58 wc w.heap.size (fun k_ => k_ ≠ gb349) v11 x11_6) ∧ Aside0 (wc.heap[gb343]? = some (.cells #[(.slice A0_0 l0_0.length c0_0), (.slice A0_1 l0_1.length c0_1), (.slice A0_2 l0_2.length c0_2), (.slice A0_3 l0_3.length c0_3), (.slice A0_4 l0_4.length c0_4), (.slice A0_5 l0_5.length c0_5)] 38 (0, 0))) ∧ Aside0 (wc.heap[gb349]? = some (.cells #[.int .i64 t344, .int .i64 t345, .int .i64 t346, .bool t347] 58 (0, 0))) ∧ Aside0 (Below w.heap.size w wc))
 case first =>
  obtain ⟨H⟩ := HC7
  by_cases c14 : t348 = true
  rotate_left
  ·replace c14 := Bool.eq_false_iff.mpr c14
   subst c14
   rw [if_neg (show ¬ (false = true) by decide)] at H
   have H' := aM H
   clear H
   go_wp2
   go_meet
   case rel => exact ⟨_, (([] : List (S80))), H', ⟨by omega⟩, ⟨by exact Kd.R_nil _ _ _ _ _⟩, ⟨by refine blk_far ?_ NB343_349.out _; refine blk_far ?_ NB343_349.out _; refine blk_far ?_ NB343_349.out _; refine blk_far ?_ NB343_349.out _; exact BK343.out⟩, ⟨by refine blk_put (cs := #[.int .i64 t344, .int .i64 t345, .int .i64 t346, .bool false]) ?_ 3 _ rfl; refine blk_put (cs := #[.int .i64 t344, .int .i64 t345, .int .i64 0, .bool false]) ?_ 2 _ rfl; refine blk_put (cs := #[.int .i64 t344, .int .i64 0, .int .i64 0, .bool false]) ?_ 1 _ rfl; refine blk_put (cs := #[.int .i64 0, .int .i64 0, .int .i64 0, .bool false]) ?_ 0 _ rfl; exact BK349.out⟩, ⟨by repeat ((with_reducible first | exact HB.out | refine below_set ?_ GE349.out))⟩⟩
  subst c14
  rw [if_pos rfl] at H
  obtain ⟨c15, H⟩ := iP H
  have LMc15 := aM c15
  clear c15
  obtain ⟨y350, hy350⟩ : ∃ y_ : List (S80), y_ = (([] : List (S80)) ++ [(⟨t344, t345, t346, t347⟩ : S80)]) := ⟨_, rfl⟩
  replace H : (impl_candidates.j0 k a1 l2 l3 l4 y350 l0_0 l0_1 l0_2 l0_3 l0_4 l0_5) = some r := by (rw [hy350]; with_reducible exact H)
  have Ny350 := aM hy350
  clear hy350
  have H' := aM H
  clear H
  have hnb16 := NB349_343.out
  have hnc16 := NB343_349.out
  obtain ⟨hcz17_0, hcz17_1, hcz17_2, hcz17_3⟩ := swc4 BK349.out
  obtain ⟨hfz17_0, hfz17_1, hfz17_2, hfz17_3⟩ := swf4 BK349.out
  go_wp2_with (((with_reducible refine gate_builtin (b := .append) (xs := #[.tmp 27, .tmp 29]) rfl ?_); at_builtin; refine Kd.R_append k80 (w0 := w) w.heap.size rfl (.tmp 27) (.tmp 29) 31 58 (.agg #[(.int .i64 0), (.int .i64 0), (.int .i64 0), (.bool false)]) 32 rfl Tryz.underlying31 info80 rfl (by decide) (by omega) (.slice none 0 0) ([] : List (S80)) (⟨t344, t345, t346, t347⟩ : S80) [.int .i64 t344, .int .i64 t345, .int .i64 t346, .bool t347] (fun k_ => k_ ≠ gb349) (fun _ => False) rfl (by (go_simp; done)) ?aP (fun _ hk => hk.elim) ?aF ?aO ?aB ?aS ?aL ?_; (case aP => exact k80_mkM _ _ _ (⟨t344, t345, t346, t347⟩ : S80)); (case aB => exact (by repeat ((with_reducible first | exact HB.out | refine below_set ?_ GE349.out)))); (case aF => exact (fun k_ hk => Kd.freshB (g := gb349) (o := .cells #[.int .i64 t344, .int .i64 t345, .int .i64 t346, .bool t347] 58 (0, 0)) (by refine blk_put (cs := #[.int .i64 t344, .int .i64 t345, .int .i64 t346, .bool false]) ?_ 3 _ rfl; refine blk_put (cs := #[.int .i64 t344, .int .i64 t345, .int .i64 0, .bool false]) ?_ 2 _ rfl; refine blk_put (cs := #[.int .i64 t344, .int .i64 0, .int .i64 0, .bool false]) ?_ 1 _ rfl; refine blk_put (cs := #[.int .i64 0, .int .i64 0, .int .i64 0, .bool false]) ?_ 0 _ rfl; exact BK349.out) k_ hk)); (case aO => exact ((Kd.R_nil _ _ _ _ (fun k_ => k_ ≠ gb349)))); (case aS => exact (below_size (by repeat ((with_reducible first | exact HB.out | refine below_set ?_ GE349.out))))); (case aL => have := LMc15.out; omega); intro v351 w18 ho hb hg hat; rw [← Ny350.out] at ho; replace BK343 := aM (blk_grown (g := gb343) (o := .cells #[.slice A0_0 l0_0.length c0_0, .slice A0_1 l0_1.length c0_1, .slice A0_2 l0_2.length c0_2, .slice A0_3 l0_3.length c0_3, .slice A0_4 l0_4.length c0_4, .slice A0_5 l0_5.length c0_5] 38 (0, 0)) (by refine blk_far ?_ NB343_349.out _; refine blk_far ?_ NB343_349.out _; refine blk_far ?_ NB343_349.out _; refine blk_far ?_ NB343_349.out _; exact BK343.out) hg (by simp [Value.ownBlock])); replace BK349 := aM (blk_grown (g := gb349) (o := .cells #[.int .i64 t344, .int .i64 t345, .int .i64 t346, .bool t347] 58 (0, 0)) (by refine blk_put (cs := #[.int .i64 t344, .int .i64 t345, .int .i64 t346, .bool false]) ?_ 3 _ rfl; refine blk_put (cs := #[.int .i64 t344, .int .i64 t345, .int .i64 0, .bool false]) ?_ 2 _ rfl; refine blk_put (cs := #[.int .i64 t344, .int .i64 0, .int .i64 0, .bool false]) ?_ 1 _ rfl; refine blk_put (cs := #[.int .i64 0, .int .i64 0, .int .i64 0, .bool false]) ?_ 0 _ rfl; exact BK349.out) hg (by simp [Value.ownBlock])); replace HB := aM (hb); have HO352 := aM (ho); clear ho hb hg hat))
  go_meet
  case rel => exact ⟨_, (y350), H', ⟨by omega⟩, ⟨by exact HO352.out⟩, ⟨by exact BK343.out⟩, ⟨by exact BK349.out⟩, ⟨by repeat ((with_reducible exact HB.out))⟩⟩
 clear HC7 hcz13_0 hcz13_1 hcz13_2 hcz13_3 hcz9_0 hcz9_1 hcz9_2 hcz9_3 hcz9_4 hcz9_5 hfz13_0 hfz13_1 hfz13_2 hfz13_3 hfz9_0 hfz9_1 hfz9_2 hfz9_3 hfz9_4 hfz9_5
 obtain ⟨kq, x11_6, HA, HJ6, HO_11, BK343, BK349, HB⟩ := hcut
 cases kq with
 | zero => exact absurd HA.out (by simp [impl_candidates.j0])
 | succ kj6 =>
  obtain ⟨H⟩ := HA
  simp only [impl_candidates.j0] at H
  obtain ⟨⟨t353, t354, t355, t356, t357⟩, A19, H⟩ := bA_ H
  have HC20 := aM H
  clear H
  have hnb21 := NB343_349.out
  have hnc21 := NB349_343.out
  obtain ⟨hcz22_0, hcz22_1, hcz22_2, hcz22_3, hcz22_4, hcz22_5⟩ := swc6 BK343.out
  obtain ⟨hfz22_0, hfz22_1, hfz22_2, hfz22_3, hfz22_4, hfz22_5⟩ := swf6 BK343.out
  go_upto_if 38 with (first | (go_at_call 87; (with_reducible refine (impl_outRoute.calls kj6 _ _ l0_0 _ _ l0_1 _ _ l0_2 _ _ l0_3 _ _ l0_4 _ _ l0_5 _ _ l2 a1 t353 t354 t355 t356 t357 _ (Kd.C_below HR0_0.out HB.out) HC0_0.out (Kd.C_below HR0_1.out HB.out) HC0_1.out (Kd.C_below HR0_2.out HB.out) HC0_2.out (Kd.C_below HR0_3.out HB.out) HC0_3.out (Kd.C_below HR0_4.out HB.out) HC0_4.out (Kd.C_below HR0_5.out HB.out) HC0_5.out (Kd.C_below HR2.out HB.out) HC2.out A19.out).mono ?_); rintro e w23 ⟨rfl, hb⟩; replace HO_11 := aM (Kd.R_below HO_11.out hb); replace BK343 := aK BK343 hb; replace BK349 := aK BK349 hb; replace HB := aB HB hb; (try clear hb)) | ((with_reducible refine gate_dst (N := 14) rfl ?_); refine box_event rfl (N := 14) rfl (cs := #[.int .i64 0, .int .i64 0, .int .i64 0, .bool false]) (t := 58) (by go_simp; done) ?_; intro gb358 hg w24 hbox hb; replace HO_11 := aM (Kd.R_below (Kd.R_elderB HO_11.out gb358 (Nat.le_of_eq hg.symm)) hb); have BK358 := aM (hbox); have GW358 := bGE HB.out hg; have GE358 := bGE HB.out hg; replace HB := aB HB hb; have NB343_358 := bLT BK343.out hg; have NB358_343 := bGT BK343.out hg; replace BK343 := aK BK343 hb; have NB349_358 := bLT BK349.out hg; have NB358_349 := bGT BK349.out hg; replace BK349 := aK BK349 hb; clear hb hbox hg; have hnb25 := NB358_343.out; have hnc25 := NB343_358.out; have hnb26 := NB358_349.out; have hnc26 := NB349_358.out; obtain ⟨hcz27_0, hcz27_1, hcz27_2, hcz27_3⟩ := swc4 BK358.out; obtain ⟨hfz27_0, hfz27_1, hfz27_2, hfz27_3⟩ := swf4 BK358.out))
  (try simp only [Act.put, List.setIfInBounds_toArray, List.set_cons_zero, List.set_cons_succ])
  go_cut [11] (fun v11 wc => ∃ (kq : Nat) (x11_19 : List (S80)), Aside0 (impl_candidates.j1 kq a1 l3 l4 x11_19 l0_0 l0_1 l0_2 l0_3 l0_4 l0_5 = some r) ∧ Aside0 (kq ≤ kj6) ∧ Aside0 (Kd.R k80 58 wc w.heap.size (fun k_ => k_ ≠ gb349 ∧ k_ ≠ gb358) v11 x11_19) ∧ Aside0 (wc.heap[gb343]? = some (.cells #[(.slice A0_0 l0_0.length c0_0), (.slice A0_1 l0_1.length c0_1), (.slice A0_2 l0_2.length c0_2), (.slice A0_3 l0_3.length c0_3), (.slice A0_4 l0_4.length c0_4), (.slice A0_5 l0_5.length c0_5)] 38 (0, 0))) ∧ Aside0 (wc.heap[gb349]? = some (.cells #[.int .i64 t344, .int .i64 t345, .int .i64 t346, .bool t347] 58 (0, 0))) ∧ Aside0 (wc.heap[gb358]? = some (.cells #[.int .i64 t353, .int .i64 t354, .int .i64 t355, .bool t356] 58 (0, 0))) ∧ Aside0 (Below w.heap.size w wc))
  case first =>
   obtain ⟨H⟩ := HC20
   by_cases c28 : t357 = true
   rotate_left
   ·replace c28 := Bool.eq_false_iff.mpr c28
    subst c28
    rw [if_neg (show ¬ (false = true) by decide)] at H
    have H' := aM H
    clear H
    go_wp2
    go_meet
    case rel => exact ⟨_, (x11_6), H', ⟨by have := HJ6.out; omega⟩, ⟨by exact Kd.R_mono (Kd.R_far (p := ⟨gb358, 3, none⟩) (Kd.R_far (p := ⟨gb358, 2, none⟩) (Kd.R_far (p := ⟨gb358, 1, none⟩) (Kd.R_far (p := ⟨gb358, 0, none⟩) (Kd.R_mono HO_11.out (fun k_ hk => (⟨hk, hk.2⟩ : _ ∧ k_ ≠ gb358))) (fun _ hk => hk.2) (.int .i64 t353)) (fun _ hk => hk.2) (.int .i64 t354)) (fun _ hk => hk.2) (.int .i64 t355)) (fun _ hk => hk.2) (.bool t356)) (fun _ hk => ⟨hk.1.1, hk.1.2⟩)⟩, ⟨by refine blk_far ?_ NB343_358.out _; refine blk_far ?_ NB343_358.out _; refine blk_far ?_ NB343_358.out _; refine blk_far ?_ NB343_358.out _; exact BK343.out⟩, ⟨by refine blk_far ?_ NB349_358.out _; refine blk_far ?_ NB349_358.out _; refine blk_far ?_ NB349_358.out _; refine blk_far ?_ NB349_358.out _; exact BK349.out⟩, ⟨by refine blk_put (cs := #[.int .i64 t353, .int .i64 t354, .int .i64 t355, .bool false]) ?_ 3 _ rfl; refine blk_put (cs := #[.int .i64 t353, .int .i64 t354, .int .i64 0, .bool false]) ?_ 2 _ rfl; refine blk_put (cs := #[.int .i64 t353, .int .i64 0, .int .i64 0, .bool false]) ?_ 1 _ rfl; refine blk_put (cs := #[.int .i64 0, .int .i64 0, .int .i64 0, .bool false]) ?_ 0 _ rfl; exact BK358.out⟩, ⟨by repeat ((with_reducible first | exact HB.out | refine below_set ?_ GE358.out))⟩⟩
   subst c28
   rw [if_pos rfl] at H
   obtain ⟨c29, H⟩ := iP H
   have LMc29 := aM c29
   clear c29
   obtain ⟨y359, hy359⟩ : ∃ y_ : List (S80), y_ = (x11_6 ++ [(⟨t353, t354, t355, t356⟩ : S80)]) := ⟨_, rfl⟩
   replace H : (impl_candidates.j1 kj6 a1 l3 l4 y359 l0_0 l0_1 l0_2 l0_3 l0_4 l0_5) = some r := by (rw [hy359]; with_reducible exact H)
   have Ny359 := aM hy359
   clear hy359
   have H' := aM H
   clear H
   have hnb30 := NB358_343.out
   have hnc30 := NB343_358.out
   have hnb31 := NB358_349.out
   have hnc31 := NB349_358.out
   obtain ⟨hcz32_0, hcz32_1, hcz32_2, hcz32_3⟩ := swc4 BK358.out
   obtain ⟨hfz32_0, hfz32_1, hfz32_2, hfz32_3⟩ := swf4 BK358.out
   go_wp2_with (((with_reducible refine gate_builtin (b := .append) (xs := #[.tmp 39, .tmp 41]) rfl ?_); at_builtin; refine Kd.R_append k80 (w0 := w) w.heap.size rfl (.tmp 39) (.tmp 41) 31 58 (.agg #[(.int .i64 0), (.int .i64 0), (.int .i64 0), (.bool false)]) 32 rfl Tryz.underlying31 info80 rfl (by decide) (by omega) u11 x11_6 (⟨t353, t354, t355, t356⟩ : S80) [.int .i64 t353, .int .i64 t354, .int .i64 t355, .bool t356] (fun k_ => k_ ≠ gb349 ∧ k_ ≠ gb358) (fun _ => False) rfl (by (go_simp; done)) ?aP (fun _ hk => hk.elim) ?aF ?aO ?aB ?aS ?aL ?_; (case aP => exact k80_mkM _ _ _ (⟨t353, t354, t355, t356⟩ : S80)); (case aB => exact (by repeat ((with_reducible first | exact HB.out | refine below_set ?_ GE358.out)))); (case aF => exact (fun k_ hk => ⟨Kd.freshB (g := gb349) (o := .cells #[.int .i64 t344, .int .i64 t345, .int .i64 t346, .bool t347] 58 (0, 0)) (by refine blk_far ?_ NB349_358.out _; refine blk_far ?_ NB349_358.out _; refine blk_far ?_ NB349_358.out _; refine blk_far ?_ NB349_358.out _; exact BK349.out) k_ hk, Kd.freshB (g := gb358) (o := .cells #[.int .i64 t353, .int .i64 t354, .int .i64 t355, .bool t356] 58 (0, 0)) (by refine blk_put (cs := #[.int .i64 t353, .int .i64 t354, .int .i64 t355, .bool false]) ?_ 3 _ rfl; refine blk_put (cs := #[.int .i64 t353, .int .i64 t354, .int .i64 0, .bool false]) ?_ 2 _ rfl; refine blk_put (cs := #[.int .i64 t353, .int .i64 0, .int .i64 0, .bool false]) ?_ 1 _ rfl; refine blk_put (cs := #[.int .i64 0, .int .i64 0, .int .i64 0, .bool false]) ?_ 0 _ rfl; exact BK358.out) k_ hk⟩)); (case aO => exact (by exact Kd.R_mono (Kd.R_far (p := ⟨gb358, 3, none⟩) (Kd.R_far (p := ⟨gb358, 2, none⟩) (Kd.R_far (p := ⟨gb358, 1, none⟩) (Kd.R_far (p := ⟨gb358, 0, none⟩) (Kd.R_mono HO_11.out (fun k_ hk => (⟨hk, hk.2⟩ : _ ∧ k_ ≠ gb358))) (fun _ hk => hk.2) (.int .i64 t353)) (fun _ hk => hk.2) (.int .i64 t354)) (fun _ hk => hk.2) (.int .i64 t355)) (fun _ hk => hk.2) (.bool t356)) (fun _ hk => ⟨hk.1.1, hk.1.2⟩))); (case aS => exact (below_size (by repeat ((with_reducible first | exact HB.out | refine below_set ?_ GE358.out))))); (case aL => have := LMc29.out; omega); intro v360 w33 ho hb hg hat; rw [← Ny359.out] at ho; replace BK343 := aM (blk_grown (g := gb343) (o := .cells #[.slice A0_0 l0_0.length c0_0, .slice A0_1 l0_1.length c0_1, .slice A0_2 l0_2.length c0_2, .slice A0_3 l0_3.length c0_3, .slice A0_4 l0_4.length c0_4, .slice A0_5 l0_5.length c0_5] 38 (0, 0)) (by refine blk_far ?_ NB343_358.out _; refine blk_far ?_ NB343_358.out _; refine blk_far ?_ NB343_358.out _; refine blk_far ?_ NB343_358.out _; exact BK343.out) hg (Kd.R_ne HO_11.out BK343.out (by decide))); replace BK349 := aM (blk_grown (g := gb349) (o := .cells #[.int .i64 t344, .int .i64 t345, .int .i64 t346, .bool t347] 58 (0, 0)) (by refine blk_far ?_ NB349_358.out _; refine blk_far ?_ NB349_358.out _; refine blk_far ?_ NB349_358.out _; refine blk_far ?_ NB349_358.out _; exact BK349.out) hg (Kd.R_away HO_11.out (fun _ hk => hk.1))); replace BK358 := aM (blk_grown (g := gb358) (o := .cells #[.int .i64 t353, .int .i64 t354, .int .i64 t355, .bool t356] 58 (0, 0)) (by refine blk_put (cs := #[.int .i64 t353, .int .i64 t354, .int .i64 t355, .bool false]) ?_ 3 _ rfl; refine blk_put (cs := #[.int .i64 t353, .int .i64 t354, .int .i64 0, .bool false]) ?_ 2 _ rfl; refine blk_put (cs := #[.int .i64 t353, .int .i64 0, .int .i64 0, .bool false]) ?_ 1 _ rfl; refine blk_put (cs := #[.int .i64 0, .int .i64 0, .int .i64 0, .bool false]) ?_ 0 _ rfl; exact BK358.out) hg (Kd.R_away HO_11.out (fun _ hk => hk.2))); replace HB := aM (hb); have HO361 := aM (ho); clear HO_11; clear ho hb hg hat))
   go_meet
   case rel => exact ⟨_, (y359), H', ⟨by have := HJ6.out; omega⟩, ⟨by exact HO361.out⟩, ⟨by exact BK343.out⟩, ⟨by exact BK349.out⟩, ⟨by exact BK358.out⟩, ⟨by repeat ((with_reducible exact HB.out))⟩⟩
  clear HC20 hcz22_0 hcz22_1 hcz22_2 hcz22_3 hcz22_4 hcz22_5 hcz27_0 hcz27_1 hcz27_2 hcz27_3 hfz22_0 hfz22_1 hfz22_2 hfz22_3 hfz22_4 hfz22_5 hfz27_0 hfz27_1 hfz27_2 hfz27_3
  obtain ⟨kq, x11_19, HA, HJ19, HO_11, BK343, BK349, BK358, HB⟩ := hcut
  cases kq with
  | zero => exact absurd HA.out (by simp [impl_candidates.j1])
  | succ kj19 =>
   obtain ⟨H⟩ := HA
   simp only [impl_candidates.j1] at H
   obtain ⟨t362, A34, H⟩ := bA_ H
   have H' := aM H
   clear H
   have hnb35 := NB343_349.out
   have hnc35 := NB349_343.out
   have hnb36 := NB343_358.out
   have hnc36 := NB358_343.out
   obtain ⟨hcz37_0, hcz37_1, hcz37_2, hcz37_3, hcz37_4, hcz37_5⟩ := swc6 BK343.out
   obtain ⟨hfz37_0, hfz37_1, hfz37_2, hfz37_3, hfz37_4, hfz37_5⟩ := swf6 BK343.out
   go_wp2_with ((go_at_call 88; (with_reducible refine (impl_neighbours.calls kj19 _ _ l0_0 _ _ l0_1 _ _ l0_2 _ _ l0_3 _ _ l0_4 _ _ l0_5 a1 _ _ l3 t362 _ (Kd.C_below HR0_0.out HB.out) HC0_0.out (Kd.C_below HR0_1.out HB.out) HC0_1.out (Kd.C_below HR0_2.out HB.out) HC0_2.out (Kd.C_below HR0_3.out HB.out) HC0_3.out (Kd.C_below HR0_4.out HB.out) HC0_4.out (Kd.C_below HR0_5.out HB.out) HC0_5.out (Kd.C_below HR3.out HB.out) HC3.out A34.out).mono ?_); rintro e w38 ⟨v363, rfl, ho0, hb⟩; replace HO_11 := aM (Kd.R_below HO_11.out hb); have HO364 := aM (Kd.R_lower ho0 (below_size HB.out)); replace BK343 := aK BK343 hb; replace BK349 := aK BK349 hb; replace BK358 := aK BK358 hb; replace HB := aB HB hb; (try clear hb); (try clear ho0); obtain ⟨Ao39, co39, eo39⟩ := Kd.R_slice HO364.out; subst eo39))
   go_loopg [11, 48] kj19 (fun kq v11 v48 w' => ∃ (x11_3 : List (S80)) (x48_3 : Int), v48 = .int .i64 x48_3 ∧ Aside0 (impl_candidates.l0 kq a1 l4 x11_3 t362 (t362.length : Int) x48_3 l0_0 l0_1 l0_2 l0_3 l0_4 l0_5 = some r) ∧ Aside0 (kq ≤ kj19) ∧ Aside0 (Kd.R k80 58 w' w.heap.size (fun k_ => k_ ≠ gb349 ∧ k_ ≠ gb358) v11 x11_3) ∧ Aside0 (Kd.R (Kd.int .i64) 3 w' w.heap.size (fun _ => True) (.slice Ao39 t362.length co39) t362) ∧ Aside0 (w'.heap[gb343]? = some (.cells #[(.slice A0_0 l0_0.length c0_0), (.slice A0_1 l0_1.length c0_1), (.slice A0_2 l0_2.length c0_2), (.slice A0_3 l0_3.length c0_3), (.slice A0_4 l0_4.length c0_4), (.slice A0_5 l0_5.length c0_5)] 38 (0, 0))) ∧ Aside0 (w'.heap[gb349]? = some (.cells #[.int .i64 t344, .int .i64 t345, .int .i64 t346, .bool t347] 58 (0, 0))) ∧ Aside0 (w'.heap[gb358]? = some (.cells #[.int .i64 t353, .int .i64 t354, .int .i64 t355, .bool t356] 58 (0, 0))) ∧ Aside0 (Below w.heap.size w w'))
   case atStart => exact ⟨(x11_19), (0), (by rfl), H', ⟨Nat.le_refl _⟩, ⟨by exact HO_11.out⟩, ⟨by exact HO364.out⟩, ⟨by exact BK343.out⟩, ⟨by exact BK349.out⟩, ⟨by exact BK358.out⟩, ⟨by repeat ((with_reducible exact HB.out))⟩⟩
   clear H'
   clear hcz37_0 hcz37_1 hcz37_2 hcz37_3 hcz37_4 hcz37_5 hfz37_0 hfz37_1 hfz37_2 hfz37_3 hfz37_4 hfz37_5
   obtain ⟨x11_3, x48_3, rfl, HA, HK3, HO_11, HO_46, BK343, BK349, BK358, HB⟩ := hrel
   cases gk with
   | zero => exact absurd HA.out (by simp [impl_candidates.l0])
   | succ k3 =>
    obtain ⟨H⟩ := HA
    simp only [impl_candidates.l0] at H
    by_cases c40 : x48_3 < (t362.length : Int)
    rotate_left
    ·rw [if_neg c40] at H
     have c40b0 := decide_eq_false c40
     clear c40
     obtain rfl := Option.some.inj H
     go_wp2
     go_ret
     exact ⟨_, by rfl, by exact Kd.R_mono HO_11.out (fun _ hk => trivial), by repeat ((with_reducible exact HB.out))⟩
    rw [if_pos c40] at H
    have c40b0 := decide_eq_true c40
    clear c40
    obtain ⟨c41b0, H⟩ := iD H
    obtain ⟨c42b0, H⟩ := iD H
    have HC43 := aM H
    clear H
    have p365 : 0 ≤ (x48_3 : Int) := oD ‹_›
    have q365 : x48_3 < (t362.length : Int) := oD ‹_›
    obtain ⟨ad365, e365, hx365_0⟩ := Kd.at_int (Kd.R_reads' HO_46.out).2.2 x48_3 p365 q365
    cases e365
    replace p365 := eq_true p365
    replace q365 := eq_true q365
    go_upto_region 11 with (fail)
    go_cut [63] (fun v63 wc => ∃ (kq : Nat) (x63_42 : Bool), v63 = .bool x63_42 ∧ Aside0 (impl_candidates.j3 kq a1 l4 x11_3 (rd t362 x48_3) t362 (t362.length : Int) x48_3 x63_42 l0_0 l0_1 l0_2 l0_3 l0_4 l0_5 = some r) ∧ Aside0 (kq ≤ k3) ∧ Aside0 (Kd.R k80 58 wc w.heap.size (fun k_ => k_ ≠ gb349 ∧ k_ ≠ gb358) u11 x11_3) ∧ Aside0 (Kd.R (Kd.int .i64) 3 wc w.heap.size (fun _ => True) (.slice (some ad365) t362.length co39) t362) ∧ Aside0 (wc.heap[gb343]? = some (.cells #[(.slice A0_0 l0_0.length c0_0), (.slice A0_1 l0_1.length c0_1), (.slice A0_2 l0_2.length c0_2), (.slice A0_3 l0_3.length c0_3), (.slice A0_4 l0_4.length c0_4), (.slice A0_5 l0_5.length c0_5)] 38 (0, 0))) ∧ Aside0 (wc.heap[gb349]? = some (.cells #[.int .i64 t344, .int .i64 t345, .int .i64 t346, .bool t347] 58 (0, 0))) ∧ Aside0 (wc.heap[gb358]? = some (.cells #[.int .i64 t353, .int .i64 t354, .int .i64 t355, .bool t356] 58 (0, 0))) ∧ Aside0 (Below w.heap.size w wc))
    case first =>
     obtain ⟨H⟩ := HC43
     obtain ⟨c44b0, H⟩ := iD H
     (skip)
     obtain ⟨c45b0, H⟩ := iD H
     by_cases c46 : ((rd_T80 l4 (rd t362 x48_3)).f0) = (-3)
     ·rw [if_pos c46] at H
      have c46b0 := beq_iff_eq.mpr c46
      have c46b1 : (((rd_T80 l4 (rd t362 x48_3)).f0) != (-3)) = false := bne_eq_false_iff_eq.mpr c46
      clear c46
      have H' := aM H
      clear H
      have p366 : 0 ≤ ((rd t362 x48_3) : Int) := oD ‹_›
      have q366 : (rd t362 x48_3) < (l4.length : Int) := oD ‹_›
      obtain ⟨ad366, e366, hx366_0, hx366_1, hx366_2, hx366_3⟩ := at_T80 HR4.out (rd t362 x48_3) p366 q366
      cases e366
      replace hx366_0 := swB HB.out hx366_0
      replace hx366_1 := swB HB.out hx366_1
      replace hx366_2 := swB HB.out hx366_2
      replace hx366_3 := swB HB.out hx366_3
      replace p366 := eq_true p366
      replace q366 := eq_true q366
      go_wp2
      go_meet
      case rel => exact ⟨_, (true), (by rfl), H', ⟨by have := HJ6.out; have := HJ19.out; have := HK3.out; omega⟩, ⟨by exact HO_11.out⟩, ⟨by exact HO_46.out⟩, ⟨by exact BK343.out⟩, ⟨by exact BK349.out⟩, ⟨by exact BK358.out⟩, ⟨by repeat ((with_reducible exact HB.out))⟩⟩
     rw [if_neg c46] at H
     have c46b0 := beq_eq_false_iff_ne.mpr c46
     have c46b1 : (((rd_T80 l4 (rd t362 x48_3)).f0) != (-3)) = true := bne_iff_ne.mpr c46
     obtain ⟨t367, A47, H⟩ := bA_ H
     have H' := aM H
     clear H
     have p366 : 0 ≤ ((rd t362 x48_3) : Int) := oD ‹_›
     have q366 : (rd t362 x48_3) < (l4.length : Int) := oD ‹_›
     obtain ⟨ad366, e366, hx366_0, hx366_1, hx366_2, hx366_3⟩ := at_T80 HR4.out (rd t362 x48_3) p366 q366
     cases e366
     replace hx366_0 := swB HB.out hx366_0
     replace hx366_1 := swB HB.out hx366_1
     replace hx366_2 := swB HB.out hx366_2
     replace hx366_3 := swB HB.out hx366_3
     replace p366 := eq_true p366
     replace q366 := eq_true q366
     go_wp2_with ((go_at_call 89; (with_reducible refine (impl_comesTo.calls k3 _ _ l4 (rd t362 x48_3) a1 t367 _ (Kd.C_below HR4.out HB.out) HC4.out A47.out).mono ?_); rintro e w' ⟨rfl, ⟨nd, rfl⟩⟩))
     go_meet
     case rel => exact ⟨_, (t367), (by rfl), H', ⟨by have := HJ6.out; have := HJ19.out; have := HK3.out; omega⟩, ⟨by (with_reducible repeat (apply Kd.R_drewN)); exact HO_11.out⟩, ⟨by (with_reducible repeat (apply Kd.R_drewN)); exact HO_46.out⟩, ⟨by (with_reducible repeat (refine blk_drewN ?_ _)); exact BK343.out⟩, ⟨by (with_reducible repeat (refine blk_drewN ?_ _)); exact BK349.out⟩, ⟨by (with_reducible repeat (refine blk_drewN ?_ _)); exact BK358.out⟩, ⟨by repeat ((with_reducible first | exact HB.out | apply pw_below_drewN))⟩⟩
    clear HC43 c40b0 c41b0 c42b0 hx365_0 p365 q365
    obtain ⟨kq, x63_42, rfl, HA, HJ42, HO_11, HO_46, BK343, BK349, BK358, HB⟩ := hcut
    cases kq with
    | zero => exact absurd HA.out (by simp [impl_candidates.j3])
    | succ kj42 =>
     obtain ⟨H⟩ := HA
     simp only [impl_candidates.j3] at H
     by_cases c48 : x63_42 = true
     ·subst c48
      rw [if_pos rfl] at H
      have H' := aM H
      clear H
      go_wp2
      go_roundg kj42
      case measure => have := HJ6.out; have := HJ19.out; have := HK3.out; have := HJ42.out; omega
      case rel => exact ⟨(x11_3), (wrap64 (x48_3 + 1)), (by rfl), H', ⟨by have := HJ6.out; have := HJ19.out; have := HK3.out; have := HJ42.out; omega⟩, ⟨by exact HO_11.out⟩, ⟨by exact HO_46.out⟩, ⟨by exact BK343.out⟩, ⟨by exact BK349.out⟩, ⟨by exact BK358.out⟩, ⟨by repeat ((with_reducible exact HB.out))⟩⟩
     replace c48 := Bool.eq_false_iff.mpr c48
     subst c48
     rw [if_neg (show ¬ (false = true) by decide)] at H
     obtain ⟨c49b0, H⟩ := iD H
     obtain ⟨c50b0, H⟩ := iD H
     obtain ⟨⟨t369, t370, t371, t372, t373⟩, A51, H⟩ := bA_ H
     have HCz := aM H
     clear H
     try go_wp2
     replace HO_11 := aM (Kd.R_drew HO_11.out)
     replace HO_46 := aM (Kd.R_drew HO_46.out)
     replace BK343 := aM (blk_drew BK343.out)
     replace BK349 := aM (blk_drew BK349.out)
     replace BK358 := aM (blk_drew BK358.out)
     replace HB := aM (below_drew1 HB.out)
     have p368 : 0 ≤ ((rd t362 x48_3) : Int) := oD ‹_›
     have q368 : (rd t362 x48_3) < (l4.length : Int) := oD ‹_›
     obtain ⟨ad368, e368, hx368_0, hx368_1, hx368_2, hx368_3⟩ := at_T80 HR4.out (rd t362 x48_3) p368 q368
     have hw368_3 := hx368_3
     have hw368_2 := hx368_2
     have hw368_1 := hx368_1
     have hw368_0 := hx368_0
     cases e368
     replace hx368_0 := swB HB.out hx368_0
     replace hx368_1 := swB HB.out hx368_1
     replace hx368_2 := swB HB.out hx368_2
     replace hx368_3 := swB HB.out hx368_3
     replace p368 := eq_true p368
     replace q368 := eq_true q368
     refine start_ (n := 14) (S := fun w' => w'.cell? ⟨gb343, 0, none⟩ = some (.slice A0_0 l0_0.length c0_0) ∧ w'.cell? ⟨gb343, 1, none⟩ = some (.slice A0_1 l0_1.length c0_1) ∧ w'.cell? ⟨gb343, 2, none⟩ = some (.slice A0_2 l0_2.length c0_2) ∧ w'.cell? ⟨gb343, 3, none⟩ = some (.slice A0_3 l0_3.length c0_3) ∧ w'.cell? ⟨gb343, 4, none⟩ = some (.slice A0_4 l0_4.length c0_4) ∧ w'.cell? ⟨gb343, 5, none⟩ = some (.slice A0_5 l0_5.length c0_5) ∧ w'.cell? (ad368.add (((rd t362 x48_3)).toNat * 4)) = some (.int .i64 ((rd_T80 l4 (rd t362 x48_3)).f0)) ∧ w'.cell? ⟨(ad368.add (((rd t362 x48_3)).toNat * 4)).block, (ad368.add (((rd t362 x48_3)).toNat * 4)).off + 1, none⟩ = some (.int .i64 ((rd_T80 l4 (rd t362 x48_3)).f1)) ∧ w'.cell? ⟨(ad368.add (((rd t362 x48_3)).toNat * 4)).block, (ad368.add (((rd t362 x48_3)).toNat * 4)).off + 2, none⟩ = some (.int .i64 ((rd_T80 l4 (rd t362 x48_3)).f2)) ∧ w'.cell? ⟨(ad368.add (((rd t362 x48_3)).toNat * 4)).block, (ad368.add (((rd t362 x48_3)).toNat * 4)).off + 3, none⟩ = some (.bool ((rd_T80 l4 (rd t362 x48_3)).f3))) (ds := []) (bA 14 0) (by kernel_rfl) rfl rfl (andc6 BK343.out ⟨(swB HB.out hw368_0), (swB HB.out hw368_1), (swB HB.out hw368_2), (swB HB.out hw368_3)⟩) (fun hHeld => ?_); refine with_tabW impl_candidates.tab12 impl_candidates.bits12 (fun HT_ HW_ => ?_)
     generalize wc.drew = w54 at HO_11 HO_46 BK343 BK349 BK358 HB hx368_0 hx368_1 hx368_2 hx368_3 hHeld ⊢
     refine pu_ 1 66 (bA 14 2) HT_ ?_
     refine pu_ 2 67 (bA 14 6) HT_ ?_
     refine pu_ 3 68 (bA 14 14) HT_ ?_
     refine pu_ 4 69 (bA 14 30) HT_ ?_
     refine pu_ 5 70 (bA 14 62) HT_ ?_
     refine tk_ 0 65 (bA 14 63) HT_ HW_ hHeld ?_
     refine tk_ 6 71 (bA 14 127) HT_ HW_ hHeld ?_
     refine join_ (σ := Nat) 2 (bA 14 4095) (fun s_ => [(72, .tuple #[.agg #[.int .i64 t369, .int .i64 t370, .int .i64 t371, .bool t372], .bool t373]), (18, .pointer (some ⟨s_, 0, none⟩)), (64, .tuple #[.agg #[.int .i64 t369, .int .i64 t370, .int .i64 t371, .bool t372], .bool t373]), (73, .agg #[.int .i64 t369, .int .i64 t370, .int .i64 t371, .bool t372]), (74, .bool t373)]) (fun s_ w' => (w'.cell? ⟨gb343, 0, none⟩ = some (.slice A0_0 l0_0.length c0_0) ∧ w'.cell? ⟨gb343, 1, none⟩ = some (.slice A0_1 l0_1.length c0_1) ∧ w'.cell? ⟨gb343, 2, none⟩ = some (.slice A0_2 l0_2.length c0_2) ∧ w'.cell? ⟨gb343, 3, none⟩ = some (.slice A0_3 l0_3.length c0_3) ∧ w'.cell? ⟨gb343, 4, none⟩ = some (.slice A0_4 l0_4.length c0_4) ∧ w'.cell? ⟨gb343, 5, none⟩ = some (.slice A0_5 l0_5.length c0_5) ∧ w'.cell? (ad368.add (((rd t362 x48_3)).toNat * 4)) = some (.int .i64 ((rd_T80 l4 (rd t362 x48_3)).f0)) ∧ w'.cell? ⟨(ad368.add (((rd t362 x48_3)).toNat * 4)).block, (ad368.add (((rd t362 x48_3)).toNat * 4)).off + 1, none⟩ = some (.int .i64 ((rd_T80 l4 (rd t362 x48_3)).f1)) ∧ w'.cell? ⟨(ad368.add (((rd t362 x48_3)).toNat * 4)).block, (ad368.add (((rd t362 x48_3)).toNat * 4)).off + 2, none⟩ = some (.int .i64 ((rd_T80 l4 (rd t362 x48_3)).f2)) ∧ w'.cell? ⟨(ad368.add (((rd t362 x48_3)).toNat * 4)).block, (ad368.add (((rd t362 x48_3)).toNat * 4)).off + 3, none⟩ = some (.bool ((rd_T80 l4 (rd t362 x48_3)).f3))) ∧ (Kd.R k80 58 w' w.heap.size (fun k_ => k_ ≠ gb349 ∧ k_ ≠ gb358 ∧ k_ ≠ s_) u11 x11_3) ∧ (Kd.R (Kd.int .i64) 3 w' w.heap.size (fun _ => True) (.slice (some ad365) t362.length co39) t362) ∧ (w'.heap[gb343]? = some (.cells #[.slice A0_0 l0_0.length c0_0, .slice A0_1 l0_1.length c0_1, .slice A0_2 l0_2.length c0_2, .slice A0_3 l0_3.length c0_3, .slice A0_4 l0_4.length c0_4, .slice A0_5 l0_5.length c0_5] 38 (0, 0))) ∧ (w'.heap[gb349]? = some (.cells #[.int .i64 t344, .int .i64 t345, .int .i64 t346, .bool t347] 58 (0, 0))) ∧ (w'.heap[gb358]? = some (.cells #[.int .i64 t353, .int .i64 t354, .int .i64 t355, .bool t356] 58 (0, 0))) ∧ (w'.heap[s_]? = some (.cells #[.int .i64 0, .int .i64 0, .int .i64 0, .bool false] 58 (0, 0))) ∧ (w.heap.size ≤ s_) ∧ (w.heap.size ≤ s_) ∧ (gb343 ≠ s_) ∧ (s_ ≠ gb343) ∧ (gb349 ≠ s_) ∧ (s_ ≠ gb349) ∧ (gb358 ≠ s_) ∧ (s_ ≠ gb358) ∧ (Below w.heap.size w w')) ?_ ?_
     rotate_left
     ·intro hCont
      refine two_ (i := 7) (j := 11) (Ni := some 72) (Nj := some 18) (bA 14 255) (bA 14 2175) rfl rfl rfl rfl (two_of HT_.out (by kernel_rfl)) (by decide) (by decide) (fun K hK => ?_) (fun K hK => ?_)
      ·skip
       refine goes_ Tryz.func90 (by kernel_rfl) rfl #[.agg #[.slice A0_0 l0_0.length c0_0, .slice A0_1 l0_1.length c0_1, .slice A0_2 l0_2.length c0_2, .slice A0_3 l0_3.length c0_3, .slice A0_4 l0_4.length c0_4, .slice A0_5 l0_5.length c0_5], .int .i64 a1, .int .i64 (rd t362 x48_3), .agg #[.int .i64 ((rd_T80 l4 (rd t362 x48_3)).f0), .int .i64 ((rd_T80 l4 (rd t362 x48_3)).f1), .int .i64 ((rd_T80 l4 (rd t362 x48_3)).f2), .bool ((rd_T80 l4 (rd t362 x48_3)).f3)]] (by rfl) rfl rfl (by (try simp only [List.map_toArray, List.map_cons, List.map_nil]); rfl) ?_
       with_reducible refine (impl_imported.calls kj42 _ _ l0_0 _ _ l0_1 _ _ l0_2 _ _ l0_3 _ _ l0_4 _ _ l0_5 a1 (rd t362 x48_3) ((rd_T80 l4 (rd t362 x48_3)).f0) ((rd_T80 l4 (rd t362 x48_3)).f1) ((rd_T80 l4 (rd t362 x48_3)).f2) ((rd_T80 l4 (rd t362 x48_3)).f3) t369 t370 t371 t372 t373 _ ?side1 ?side2 ?side3 ?side4 ?side5 ?side6 ?side7 ?side8 ?side9 ?side10 ?side11 ?side12 A51.out).mono ?_
       (case side1 => exact (Kd.C_below HR0_0.out HB.out))
       (case side2 => exact HC0_0.out)
       (case side3 => exact (Kd.C_below HR0_1.out HB.out))
       (case side4 => exact HC0_1.out)
       (case side5 => exact (Kd.C_below HR0_2.out HB.out))
       (case side6 => exact HC0_2.out)
       (case side7 => exact (Kd.C_below HR0_3.out HB.out))
       (case side8 => exact HC0_3.out)
       (case side9 => exact (Kd.C_below HR0_4.out HB.out))
       (case side10 => exact HC0_4.out)
       (case side11 => exact (Kd.C_below HR0_5.out HB.out))
       (case side12 => exact HC0_5.out)
       rintro e w55 ⟨rfl, hb⟩
       refine ⟨_, rfl, ?_⟩
       replace HO_11 := aM (Kd.R_below HO_11.out hb)
       replace HO_46 := aM (Kd.R_below HO_46.out hb)
       replace BK343 := aK BK343 hb
       replace BK349 := aK BK349 hb
       replace BK358 := aK BK358 hb
       replace HB := aB HB hb
       (try clear hb)
       refine hK.out _ _ (andc6 BK343.out ⟨(swB HB.out hw368_0), (swB HB.out hw368_1), (swB HB.out hw368_2), (swB HB.out hw368_3)⟩) (fun hHeld => ?_)
       clear hK K
       refine norm_ (a' := ?_) ?_ ?_
       rotate_left
       ·show Act.put _ (some 72) _ = _
        simp only [Act.put, sb0, sb1, sb2, i64_w, i32_w]
        rfl
       refine pu_ 8 64 (bA 14 511) HT_ ?_
       refine pu_ 9 73 (bA 14 1023) HT_ ?_
       refine pu_ 10 74 (bA 14 2047) HT_ ?_
       refine one_ (i := 11) (N := some 18) (bA 14 4095) rfl rfl (one_of HT_.out (by kernel_rfl)) (by decide) (fun K hK => ?_)
       refine box_step ?hg (N := 18) ?hd (cs := #[.int .i64 0, .int .i64 0, .int .i64 0, .bool false]) (t := 58) ?hr ?_; (case hd => rfl); (case hg => rfl); (case hr => (go_simp; done))
       intro gb374 hg w56 hbox hb
       replace HO_11 := aM (Kd.R_below (Kd.R_elderB HO_11.out gb374 (Nat.le_of_eq hg.symm)) hb)
       replace HO_46 := aM (Kd.R_below HO_46.out hb)
       have BK374 := aM (hbox)
       have GW374 := bGE HB.out hg
       have GE374 := bGE HB.out hg
       replace HB := aB HB hb
       have NB343_374 := bLT BK343.out hg
       have NB374_343 := bGT BK343.out hg
       replace BK343 := aK BK343 hb
       have NB349_374 := bLT BK349.out hg
       have NB374_349 := bGT BK349.out hg
       replace BK349 := aK BK349 hb
       have NB358_374 := bLT BK358.out hg
       have NB374_358 := bGT BK358.out hg
       replace BK358 := aK BK358 hb
       clear hb hbox hg
       refine hK.out _ _ (andc6 BK343.out ⟨(swB HB.out hw368_0), (swB HB.out hw368_1), (swB HB.out hw368_2), (swB HB.out hw368_3)⟩) (fun hHeld => ?_)
       clear hK K
       refine norm_ (a' := ?_) ?_ ?_
       rotate_left
       ·show Act.put _ (some 18) _ = _
        simp only [Act.put, sb0, sb1, sb2, i64_w, i32_w]
        rfl
       exact norm_ (by simp only [putAll, Act.put, List.setIfInBounds_toArray, List.set_cons_zero, List.set_cons_succ]) (hCont (gb374) _ ⟨hHeld, (by exact Kd.R_mono HO_11.out (fun _ hk => ⟨hk.1.1, ⟨hk.1.2, hk.2⟩⟩)), HO_46.out, BK343.out, BK349.out, BK358.out, BK374.out, GW374.out, GE374.out, NB343_374.out, NB374_343.out, NB349_374.out, NB374_349.out, NB358_374.out, NB374_358.out, HB.out⟩)
      skip
      refine box_step ?hg (N := 18) ?hd (cs := #[.int .i64 0, .int .i64 0, .int .i64 0, .bool false]) (t := 58) ?hr ?_; (case hd => rfl); (case hg => rfl); (case hr => (go_simp; done))
      intro gb374 hg w55 hbox hb
      replace HO_11 := aM (Kd.R_below (Kd.R_elderB HO_11.out gb374 (Nat.le_of_eq hg.symm)) hb)
      replace HO_46 := aM (Kd.R_below HO_46.out hb)
      have BK374 := aM (hbox)
      have GW374 := bGE HB.out hg
      have GE374 := bGE HB.out hg
      replace HB := aB HB hb
      have NB343_374 := bLT BK343.out hg
      have NB374_343 := bGT BK343.out hg
      replace BK343 := aK BK343 hb
      have NB349_374 := bLT BK349.out hg
      have NB374_349 := bGT BK349.out hg
      replace BK349 := aK BK349 hb
      have NB358_374 := bLT BK358.out hg
      have NB374_358 := bGT BK358.out hg
      replace BK358 := aK BK358 hb
      clear hb hbox hg
      refine hK.out _ _ (andc6 BK343.out ⟨(swB HB.out hw368_0), (swB HB.out hw368_1), (swB HB.out hw368_2), (swB HB.out hw368_3)⟩) (fun hHeld => ?_)
      clear hK K
      refine norm_ (a' := ?_) ?_ ?_
      rotate_left
      ·show Act.put _ (some 18) _ = _
       simp only [Act.put, sb0, sb1, sb2, i64_w, i32_w]
       rfl
      refine one_ (i := 7) (N := some 72) (bA 14 2303) rfl rfl (one_of HT_.out (by kernel_rfl)) (by decide) (fun K hK => ?_)
      refine goes_ Tryz.func90 (by kernel_rfl) rfl #[.agg #[.slice A0_0 l0_0.length c0_0, .slice A0_1 l0_1.length c0_1, .slice A0_2 l0_2.length c0_2, .slice A0_3 l0_3.length c0_3, .slice A0_4 l0_4.length c0_4, .slice A0_5 l0_5.length c0_5], .int .i64 a1, .int .i64 (rd t362 x48_3), .agg #[.int .i64 ((rd_T80 l4 (rd t362 x48_3)).f0), .int .i64 ((rd_T80 l4 (rd t362 x48_3)).f1), .int .i64 ((rd_T80 l4 (rd t362 x48_3)).f2), .bool ((rd_T80 l4 (rd t362 x48_3)).f3)]] (by rfl) rfl rfl (by (try simp only [List.map_toArray, List.map_cons, List.map_nil]); rfl) ?_
      with_reducible refine (impl_imported.calls kj42 _ _ l0_0 _ _ l0_1 _ _ l0_2 _ _ l0_3 _ _ l0_4 _ _ l0_5 a1 (rd t362 x48_3) ((rd_T80 l4 (rd t362 x48_3)).f0) ((rd_T80 l4 (rd t362 x48_3)).f1) ((rd_T80 l4 (rd t362 x48_3)).f2) ((rd_T80 l4 (rd t362 x48_3)).f3) t369 t370 t371 t372 t373 _ ?side1 ?side2 ?side3 ?side4 ?side5 ?side6 ?side7 ?side8 ?side9 ?side10 ?side11 ?side12 A51.out).mono ?_
      (case side1 => exact (Kd.C_below HR0_0.out HB.out))
      (case side2 => exact HC0_0.out)
      (case side3 => exact (Kd.C_below HR0_1.out HB.out))
      (case side4 => exact HC0_1.out)
      (case side5 => exact (Kd.C_below HR0_2.out HB.out))
      (case side6 => exact HC0_2.out)
      (case side7 => exact (Kd.C_below HR0_3.out HB.out))
      (case side8 => exact HC0_3.out)
      (case side9 => exact (Kd.C_below HR0_4.out HB.out))
      (case side10 => exact HC0_4.out)
      (case side11 => exact (Kd.C_below HR0_5.out HB.out))
      (case side12 => exact HC0_5.out)
      rintro e w56 ⟨rfl, hb⟩
      refine ⟨_, rfl, ?_⟩
      replace HO_11 := aM (Kd.R_below HO_11.out hb)
      replace HO_46 := aM (Kd.R_below HO_46.out hb)
      replace BK343 := aK BK343 hb
      replace BK349 := aK BK349 hb
      replace BK358 := aK BK358 hb
      replace BK374 := aK BK374 hb
      replace HB := aB HB hb
      (try clear hb)
      refine hK.out _ _ (andc6 BK343.out ⟨(swB HB.out hw368_0), (swB HB.out hw368_1), (swB HB.out hw368_2), (swB HB.out hw368_3)⟩) (fun hHeld => ?_)
      clear hK K
      refine norm_ (a' := ?_) ?_ ?_
      rotate_left
      ·show Act.put _ (some 72) _ = _
       simp only [Act.put, sb0, sb1, sb2, i64_w, i32_w]
       rfl
      refine pu_ 8 64 (bA 14 2559) HT_ ?_
      refine pu_ 9 73 (bA 14 3071) HT_ ?_
      refine pu_ 10 74 (bA 14 4095) HT_ ?_
      exact norm_ (by simp only [putAll, Act.put, List.setIfInBounds_toArray, List.set_cons_zero, List.set_cons_succ]) (hCont (gb374) _ ⟨hHeld, (by exact Kd.R_mono HO_11.out (fun _ hk => ⟨hk.1.1, ⟨hk.1.2, hk.2⟩⟩)), HO_46.out, BK343.out, BK349.out, BK358.out, BK374.out, GW374.out, GE374.out, NB343_374.out, NB374_343.out, NB349_374.out, NB374_349.out, NB358_374.out, NB374_358.out, HB.out⟩)
     rintro gb374 w57 ⟨hHeld, h0_, h1_, h2_, h3_, h4_, h5_, h6_, h7_, h8_, h9_, h10_, h11_, h12_, h13_, h14_⟩
     replace HO_11 := aM h0_
     replace HO_46 := aM h1_
     replace BK343 := aM h2_
     replace BK349 := aM h3_
     replace BK358 := aM h4_
     have BK374 := aM h5_
     have GW374 := aM h6_
     have GE374 := aM h7_
     have NB343_374 := aM h8_
     have NB374_343 := aM h9_
     have NB349_374 := aM h10_
     have NB374_349 := aM h11_
     have NB358_374 := aM h12_
     have NB374_358 := aM h13_
     replace HB := aM h14_
     clear h0_ h1_ h2_ h3_ h4_ h5_ h6_ h7_ h8_ h9_ h10_ h11_ h12_ h13_ h14_
     refine norm_ (a' := ?_) ?_ ?_
     rotate_left
     ·simp only [putAll, Act.put, List.setIfInBounds_toArray, List.set_cons_zero, List.set_cons_succ]
      rfl
     refine one_ (i := 12) (N := none) (bA 14 8191) rfl rfl (one_of HT_.out (by kernel_rfl)) (by decide) (fun K hK => ?_)
     have hs58 : w57.cell? ⟨gb374, 0, none⟩ = some (.int .i64 0) := (blk_cell BK374.out 0).trans rfl
     have hfs58 := blk_frozen BK374.out 0
     have hns58_0 := NB343_374.out
     have hns58_1 := NB349_374.out
     have hns58_2 := NB358_374.out
     have hms58_0 := NB374_343.out
     have hms58_1 := NB374_349.out
     have hms58_2 := NB374_358.out
     have hs59 : w57.cell? ⟨gb374, 1, none⟩ = some (.int .i64 0) := (blk_cell BK374.out 1).trans rfl
     have hfs59 := blk_frozen BK374.out 1
     have hns59_0 := NB343_374.out
     have hns59_1 := NB349_374.out
     have hns59_2 := NB358_374.out
     have hms59_0 := NB374_343.out
     have hms59_1 := NB374_349.out
     have hms59_2 := NB374_358.out
     have hs60 : w57.cell? ⟨gb374, 2, none⟩ = some (.int .i64 0) := (blk_cell BK374.out 2).trans rfl
     have hfs60 := blk_frozen BK374.out 2
     have hns60_0 := NB343_374.out
     have hns60_1 := NB349_374.out
     have hns60_2 := NB358_374.out
     have hms60_0 := NB374_343.out
     have hms60_1 := NB374_349.out
     have hms60_2 := NB374_358.out
     have hs61 : w57.cell? ⟨gb374, 3, none⟩ = some (.bool false) := (blk_cell BK374.out 3).trans rfl
     have hfs61 := blk_frozen BK374.out 3
     have hns61_0 := NB343_374.out
     have hns61_1 := NB349_374.out
     have hns61_2 := NB358_374.out
     have hms61_0 := NB374_343.out
     have hms61_1 := NB374_349.out
     have hms61_2 := NB374_358.out
     refine skip_ (w1 := ?_) (by rfl) rfl ?_ ?_
     rotate_left
     ·go_simp
      rfl
     refine hK.out _ _ ⟨(cf4 NB343_374.out hHeld.1), (cf4 NB343_374.out hHeld.2.1), (cf4 NB343_374.out hHeld.2.2.1), (cf4 NB343_374.out hHeld.2.2.2.1), (cf4 NB343_374.out hHeld.2.2.2.2.1), (cf4 NB343_374.out hHeld.2.2.2.2.2.1), (cf4 (by exact Nat.ne_of_lt (Nat.lt_of_lt_of_le (by have := World.block_lt_of_cell? _ _ hw368_0; exact this) GW374.out)) hHeld.2.2.2.2.2.2.1), (cf4 (by exact Nat.ne_of_lt (Nat.lt_of_lt_of_le (by have := World.block_lt_of_cell? _ _ hw368_1; exact this) GW374.out)) hHeld.2.2.2.2.2.2.2.1), (cf4 (by exact Nat.ne_of_lt (Nat.lt_of_lt_of_le (by have := World.block_lt_of_cell? _ _ hw368_2; exact this) GW374.out)) hHeld.2.2.2.2.2.2.2.2.1), (cf4 (by exact Nat.ne_of_lt (Nat.lt_of_lt_of_le (by have := World.block_lt_of_cell? _ _ hw368_3; exact this) GW374.out)) hHeld.2.2.2.2.2.2.2.2.2)⟩ (fun hHeld => ?_)
     clear hK K
     refine pu_ 13 19 (bA 14 16383) HT_ ?_
     refine done_ (done_of HT_.out (by kernel_rfl)) ?_
     obtain ⟨H⟩ := HCz
     by_cases c52 : t373 = true
     rotate_left
     ·replace c52 := Bool.eq_false_iff.mpr c52
      subst c52
      rw [if_neg (show ¬ (false = true) by decide)] at H
      have H' := aM H
      clear H
      try go_wp2
      go_roundg kj42
      case measure => have := HJ6.out; have := HJ19.out; have := HK3.out; have := HJ42.out; omega
      case rel => exact ⟨(x11_3), (wrap64 (x48_3 + 1)), (by rfl), H', ⟨by have := HJ6.out; have := HJ19.out; have := HK3.out; have := HJ42.out; omega⟩, ⟨by exact Kd.R_mono (Kd.R_far (p := ⟨gb374, 3, none⟩) (Kd.R_far (p := ⟨gb374, 2, none⟩) (Kd.R_far (p := ⟨gb374, 1, none⟩) (Kd.R_far (p := ⟨gb374, 0, none⟩) (Kd.R_mono HO_11.out (fun k_ hk => (⟨hk, hk.2.2⟩ : _ ∧ k_ ≠ gb374))) (fun _ hk => hk.2) (.int .i64 t369)) (fun _ hk => hk.2) (.int .i64 t370)) (fun _ hk => hk.2) (.int .i64 t371)) (fun _ hk => hk.2) (.bool t372)) (fun _ hk => ⟨hk.1.1, hk.1.2.1⟩)⟩, ⟨by exact Kd.R_mono (Kd.R_far (p := ⟨gb374, 3, none⟩) (Kd.R_far (p := ⟨gb374, 2, none⟩) (Kd.R_far (p := ⟨gb374, 1, none⟩) (Kd.R_far (p := ⟨gb374, 0, none⟩) (Kd.R_types HO_46.out BK374.out (by decide)) (fun _ hk => hk.2) (.int .i64 t369)) (fun _ hk => hk.2) (.int .i64 t370)) (fun _ hk => hk.2) (.int .i64 t371)) (fun _ hk => hk.2) (.bool t372)) (fun _ hk => trivial)⟩, ⟨by refine blk_far ?_ NB343_374.out _; refine blk_far ?_ NB343_374.out _; refine blk_far ?_ NB343_374.out _; refine blk_far ?_ NB343_374.out _; exact BK343.out⟩, ⟨by refine blk_far ?_ NB349_374.out _; refine blk_far ?_ NB349_374.out _; refine blk_far ?_ NB349_374.out _; refine blk_far ?_ NB349_374.out _; exact BK349.out⟩, ⟨by refine blk_far ?_ NB358_374.out _; refine blk_far ?_ NB358_374.out _; refine blk_far ?_ NB358_374.out _; refine blk_far ?_ NB358_374.out _; exact BK358.out⟩, ⟨by repeat ((with_reducible first | exact HB.out | refine below_set ?_ GE374.out))⟩⟩
     subst c52
     rw [if_pos rfl] at H
     obtain ⟨c53, H⟩ := iP H
     have LMc53 := aM c53
     clear c53
     obtain ⟨y375, hy375⟩ : ∃ y_ : List (S80), y_ = (x11_3 ++ [(⟨t369, t370, t371, t372⟩ : S80)]) := ⟨_, rfl⟩
     replace H : (impl_candidates.l0 kj42 a1 l4 y375 t362 (t362.length : Int) (wrap64 (x48_3 + 1)) l0_0 l0_1 l0_2 l0_3 l0_4 l0_5) = some r := by (rw [hy375]; with_reducible exact H)
     have Ny375 := aM hy375
     clear hy375
     have H' := aM H
     clear H
     have hnb62 := NB374_343.out
     have hnc62 := NB343_374.out
     have hnb63 := NB374_349.out
     have hnc63 := NB349_374.out
     have hnb64 := NB374_358.out
     have hnc64 := NB358_374.out
     obtain ⟨hcz65_0, hcz65_1, hcz65_2, hcz65_3⟩ := swc4 BK374.out
     obtain ⟨hfz65_0, hfz65_1, hfz65_2, hfz65_3⟩ := swf4 BK374.out
     try go_wp2_with (((with_reducible refine gate_builtin (b := .append) (xs := #[.tmp 76, .tmp 78]) rfl ?_); at_builtin; refine Kd.R_append k80 (w0 := w) w.heap.size rfl (.tmp 76) (.tmp 78) 31 58 (.agg #[(.int .i64 0), (.int .i64 0), (.int .i64 0), (.bool false)]) 32 rfl Tryz.underlying31 info80 rfl (by decide) (by omega) u11 x11_3 (⟨t369, t370, t371, t372⟩ : S80) [.int .i64 t369, .int .i64 t370, .int .i64 t371, .bool t372] (fun k_ => k_ ≠ gb349 ∧ k_ ≠ gb358 ∧ k_ ≠ gb374) (fun _ => False) rfl (by (go_simp; done)) ?aP (fun _ hk => hk.elim) ?aF ?aO ?aB ?aS ?aL ?_; (case aP => exact k80_mkM _ _ _ (⟨t369, t370, t371, t372⟩ : S80)); (case aB => exact (by repeat ((with_reducible first | exact HB.out | refine below_set ?_ GE374.out)))); (case aF => exact (fun k_ hk => ⟨Kd.freshB (g := gb349) (o := .cells #[.int .i64 t344, .int .i64 t345, .int .i64 t346, .bool t347] 58 (0, 0)) (by refine blk_far ?_ NB349_374.out _; refine blk_far ?_ NB349_374.out _; refine blk_far ?_ NB349_374.out _; refine blk_far ?_ NB349_374.out _; exact BK349.out) k_ hk, Kd.freshB (g := gb358) (o := .cells #[.int .i64 t353, .int .i64 t354, .int .i64 t355, .bool t356] 58 (0, 0)) (by refine blk_far ?_ NB358_374.out _; refine blk_far ?_ NB358_374.out _; refine blk_far ?_ NB358_374.out _; refine blk_far ?_ NB358_374.out _; exact BK358.out) k_ hk, Kd.freshB (g := gb374) (o := .cells #[.int .i64 t369, .int .i64 t370, .int .i64 t371, .bool t372] 58 (0, 0)) (by refine blk_put (cs := #[.int .i64 t369, .int .i64 t370, .int .i64 t371, .bool false]) ?_ 3 _ rfl; refine blk_put (cs := #[.int .i64 t369, .int .i64 t370, .int .i64 0, .bool false]) ?_ 2 _ rfl; refine blk_put (cs := #[.int .i64 t369, .int .i64 0, .int .i64 0, .bool false]) ?_ 1 _ rfl; refine blk_put (cs := #[.int .i64 0, .int .i64 0, .int .i64 0, .bool false]) ?_ 0 _ rfl; exact BK374.out) k_ hk⟩)); (case aO => exact (by exact Kd.R_mono (Kd.R_far (p := ⟨gb374, 3, none⟩) (Kd.R_far (p := ⟨gb374, 2, none⟩) (Kd.R_far (p := ⟨gb374, 1, none⟩) (Kd.R_far (p := ⟨gb374, 0, none⟩) (Kd.R_mono HO_11.out (fun k_ hk => (⟨hk, hk.2.2⟩ : _ ∧ k_ ≠ gb374))) (fun _ hk => hk.2) (.int .i64 t369)) (fun _ hk => hk.2) (.int .i64 t370)) (fun _ hk => hk.2) (.int .i64 t371)) (fun _ hk => hk.2) (.bool t372)) (fun _ hk => ⟨hk.1.1, ⟨hk.1.2.1, hk.1.2.2⟩⟩))); (case aS => exact (below_size (by repeat ((with_reducible first | exact HB.out | refine below_set ?_ GE374.out))))); (case aL => have := LMc53.out; omega); intro v376 w66 ho hb hg hat; rw [← Ny375.out] at ho; replace HO_46 := aM (Kd.R_over' (by exact (Kd.R_mono (Kd.R_far (p := ⟨gb374, 3, none⟩) (Kd.R_far (p := ⟨gb374, 2, none⟩) (Kd.R_far (p := ⟨gb374, 1, none⟩) (Kd.R_far (p := ⟨gb374, 0, none⟩) (Kd.R_types HO_46.out BK374.out (by decide)) (fun _ hk => hk.2) (.int .i64 t369)) (fun _ hk => hk.2) (.int .i64 t370)) (fun _ hk => hk.2) (.int .i64 t371)) (fun _ hk => hk.2) (.bool t372)) (fun _ h_ => h_.1))) (Kd.R_typed (by exact (Kd.R_mono (Kd.R_far (p := ⟨gb374, 3, none⟩) (Kd.R_far (p := ⟨gb374, 2, none⟩) (Kd.R_far (p := ⟨gb374, 1, none⟩) (Kd.R_far (p := ⟨gb374, 0, none⟩) (Kd.R_mono HO_11.out (fun k_ hk => (⟨hk, hk.2.2⟩ : _ ∧ k_ ≠ gb374))) (fun _ hk => hk.2) (.int .i64 t369)) (fun _ hk => hk.2) (.int .i64 t370)) (fun _ hk => hk.2) (.int .i64 t371)) (fun _ hk => hk.2) (.bool t372)) (fun _ h_ => h_.1)))) (by decide) hg); replace BK343 := aM (blk_grown (g := gb343) (o := .cells #[.slice A0_0 l0_0.length c0_0, .slice A0_1 l0_1.length c0_1, .slice A0_2 l0_2.length c0_2, .slice A0_3 l0_3.length c0_3, .slice A0_4 l0_4.length c0_4, .slice A0_5 l0_5.length c0_5] 38 (0, 0)) (by refine blk_far ?_ NB343_374.out _; refine blk_far ?_ NB343_374.out _; refine blk_far ?_ NB343_374.out _; refine blk_far ?_ NB343_374.out _; exact BK343.out) hg (Kd.R_ne HO_11.out BK343.out (by decide))); replace BK349 := aM (blk_grown (g := gb349) (o := .cells #[.int .i64 t344, .int .i64 t345, .int .i64 t346, .bool t347] 58 (0, 0)) (by refine blk_far ?_ NB349_374.out _; refine blk_far ?_ NB349_374.out _; refine blk_far ?_ NB349_374.out _; refine blk_far ?_ NB349_374.out _; exact BK349.out) hg (Kd.R_away HO_11.out (fun _ hk => hk.1))); replace BK358 := aM (blk_grown (g := gb358) (o := .cells #[.int .i64 t353, .int .i64 t354, .int .i64 t355, .bool t356] 58 (0, 0)) (by refine blk_far ?_ NB358_374.out _; refine blk_far ?_ NB358_374.out _; refine blk_far ?_ NB358_374.out _; refine blk_far ?_ NB358_374.out _; exact BK358.out) hg (Kd.R_away HO_11.out (fun _ hk => hk.2.1))); replace BK374 := aM (blk_grown (g := gb374) (o := .cells #[.int .i64 t369, .int .i64 t370, .int .i64 t371, .bool t372] 58 (0, 0)) (by refine blk_put (cs := #[.int .i64 t369, .int .i64 t370, .int .i64 t371, .bool false]) ?_ 3 _ rfl; refine blk_put (cs := #[.int .i64 t369, .int .i64 t370, .int .i64 0, .bool false]) ?_ 2 _ rfl; refine blk_put (cs := #[.int .i64 t369, .int .i64 0, .int .i64 0, .bool false]) ?_ 1 _ rfl; refine blk_put (cs := #[.int .i64 0, .int .i64 0, .int .i64 0, .bool false]) ?_ 0 _ rfl; exact BK374.out) hg (Kd.R_away HO_11.out (fun _ hk => hk.2.2))); replace HB := aM (hb); have HO377 := aM (ho); clear HO_11; clear ho hb hg hat))
     go_roundg kj42
     case measure => have := HJ6.out; have := HJ19.out; have := HK3.out; have := HJ42.out; omega
     case rel => exact ⟨(y375), (wrap64 (x48_3 + 1)), (by rfl), H', ⟨by have := HJ6.out; have := HJ19.out; have := HK3.out; have := HJ42.out; omega⟩, ⟨by exact Kd.R_mono HO377.out (fun _ hk => ⟨hk.1, hk.2.1⟩)⟩, ⟨by exact HO_46.out⟩, ⟨by exact BK343.out⟩, ⟨by exact BK349.out⟩, ⟨by exact BK358.out⟩, ⟨by repeat ((with_reducible exact HB.out))⟩⟩
end Go.Proofs.YtgibacfgjmdjdaaGreat.PFnExactIsStable
end
section
namespace Go.Proofs.YtgibacfgjmdjdaaGreat.PFnExactIsStable
open Go.RowKit Go.Proofs.YtgibacfgjmdjdaaGreatW.PrintWords Go.Proofs.YtgibacfgjmdjdaaGreatW.PrintLast Go.Proofs.YtgibacfgjmdjdaaGreatW.PrintMore
attribute [local go_sem] max2_int min2_int max_two min_two max_three min_three max_four min_four   -- for this text's walks alone
set_option linter.unusedVariables false
set_option maxHeartbeats 8000000
set_option maxRecDepth 100000
set_option linter.unusedSimpArgs false
def cmp_Or_int.l0 : Nat → Int → List Int → Int → Int → Option (Int)
 | 0, _, _, _, _ => none
 | k + 1, x3, x6, x7, x8 => if x8 < x7 then (if 0 ≤ x8 then (if x8 < (x6.length : Int) then (if (rd x6 x8) = x3 then (cmp_Or_int.l0 k x3 x6 x7 (wrap64 (x8 + 1))) else (some (rd x6 x8))) else (none)) else (none)) else (some x3)
def cmp_Or_int.f (k : Nat) (l0 : List Int) : Option (Int) := cmp_Or_int.l0 k 0 l0 (l0.length : Int) 0
theorem cmp_Or_int.calls (k A0 c0 l0 r w) (hr0 : Kd.C (Kd.int .i64) w A0 l0.length l0) (hc0 : l0.length ≤ c0) (h : cmp_Or_int.f k l0 = some r) :
  Calls Tryz.prog 101 #[.slice A0 l0.length c0] w fun e w' => e = .returned (.int .i64 r) ∧ Drawn0 w w' := by
 have HR0 := aM hr0
 have HC0 := aM hc0
 clear hr0 hc0
 have H : (cmp_Or_int.l0 k 0 l0 (l0.length : Int) 0) = some r := h
 clear h
 have H' := aM H
 clear H
 go_enter Tryz.func101, Tryz.ntmps101
 go_wp2
 go_loopg [8] k (fun kq v8 w' => ∃ (x8_1 : Int), v8 = .int .i64 x8_1 ∧ Aside0 (cmp_Or_int.l0 kq 0 l0 (l0.length : Int) x8_1 = some r) ∧ Aside0 (kq ≤ k) ∧ Drawn0 w w')
 case atStart => exact ⟨(0), (by rfl), H', ⟨Nat.le_refl _⟩, by repeat (exact Drawn0.refl _)⟩
 clear H'
 obtain ⟨x8_1, rfl, HA, HK1, ⟨m1, rfl⟩⟩ := hrel
 cases gk with
 | zero => exact absurd HA.out (by simp [cmp_Or_int.l0])
 | succ k1 =>
  obtain ⟨H⟩ := HA
  simp only [cmp_Or_int.l0] at H
  by_cases c2 : x8_1 < (l0.length : Int)
  rotate_left
  ·rw [if_neg c2] at H
   have c2b0 := decide_eq_false c2
   clear c2
   obtain rfl := Option.some.inj H
   go_wp2
   go_ret
   exact ⟨by rfl, by repeat (first | exact Drawn0.refl _ | apply Drawn0.step)⟩
  rw [if_pos c2] at H
  have c2b0 := decide_eq_true c2
  clear c2
  obtain ⟨c3b0, H⟩ := iD H
  obtain ⟨c4b0, H⟩ := iD H
  by_cases c5 : (rd l0 x8_1) = 0
  rotate_left
  ·rw [if_neg c5] at H
   have c5b0 := beq_eq_false_iff_ne.mpr c5
   have c5b1 : ((rd l0 x8_1) != 0) = true := bne_iff_ne.mpr c5
   obtain rfl := Option.some.inj H
   have p378 : 0 ≤ (x8_1 : Int) := oD ‹_›
   have q378 : x8_1 < (l0.length : Int) := oD ‹_›
   obtain ⟨ad378, e378, hx378_0⟩ := Kd.at_int HR0.out x8_1 p378 q378
   cases e378
   replace p378 := eq_true p378
   replace q378 := eq_true q378
   go_wp2
   go_ret
   exact ⟨by rfl, by repeat (first | exact Drawn0.refl _ | apply Drawn0.step)⟩
  rw [if_pos c5] at H
  have c5b0 := beq_iff_eq.mpr c5
  have c5b1 : ((rd l0 x8_1) != 0) = false := bne_eq_false_iff_eq.mpr c5
  clear c5
  have H' := aM H
  clear H
  have p378 : 0 ≤ (x8_1 : Int) := oD ‹_›
  have q378 : x8_1 < (l0.length : Int) := oD ‹_›
  obtain ⟨ad378, e378, hx378_0⟩ := Kd.at_int HR0.out x8_1 p378 q378
  cases e378
  replace p378 := eq_true p378
  replace q378 := eq_true q378
  go_wp2
  go_roundg k1
  case measure => have := HK1.out; omega
  case rel => exact ⟨(wrap64 (x8_1 + 1)), (by rfl), H', ⟨by have := HK1.out; omega⟩, by repeat (first | exact Drawn0.refl _ | apply Drawn0.step)⟩
def cmp_isNaN_int.f (a0 : Int) : Option (Bool) := some (a0 != a0)
theorem cmp_isNaN_int.calls (a0 r w) (h : cmp_isNaN_int.f a0 = some r) :
  Calls Tryz.prog 105 #[.int .i64 a0] w fun e w' => e = .returned (.bool r) ∧ Drawn0 w w' := by
 have H : (some (a0 != a0)) = some r := h
 clear h
 obtain rfl := Option.some.inj H
 go_enter Tryz.func105, Tryz.ntmps105
 go_wp2
 go_ret
 exact ⟨by rfl, by repeat (exact Drawn0.refl _)⟩
def cmp_Compare_int.f (a0 : Int) (a1 : Int) : Option (Int) := (cmp_isNaN_int.f a0).bind fun t379 => ((cmp_isNaN_int.f a1).bind fun t380 => (if t379 = true then (if t380 = true then (some 0) else (some (-1))) else (if t380 = true then (some 1) else (if a0 < a1 then (some (-1)) else (if a0 > a1 then (some 1) else (some 0))))))
theorem cmp_Compare_int.calls (a0 a1 r w) (h : cmp_Compare_int.f a0 a1 = some r) :
  Calls Tryz.prog 102 #[.int .i64 a0, .int .i64 a1] w fun e w' => e = .returned (.int .i64 r) ∧ Drawn0 w w' := by
 have H : ((cmp_isNaN_int.f a0).bind fun t379 => ((cmp_isNaN_int.f a1).bind fun t380 => (if t379 = true then (if t380 = true then (some 0) else (some (-1))) else (if t380 = true then (some 1) else (if a0 < a1 then (some (-1)) else (if a0 > a1 then (some 1) else (some 0))))))) = some r := h
 clear h
 obtain ⟨t379, A3, H⟩ := bA_ H
 obtain ⟨t380, A4, H⟩ := bA_ H
 by_cases c5 : t379 = true
 ·subst c5
  rw [if_pos rfl] at H
  by_cases c6 : t380 = true
  ·subst c6
   rw [if_pos rfl] at H
   obtain rfl := Option.some.inj H
   go_enter Tryz.func102, Tryz.ntmps102
   go_wp2_with (first | (go_at_call 105; (with_reducible refine (cmp_isNaN_int.calls a0 true _ A3.out).mono ?_); rintro e w' ⟨rfl, ⟨nd, rfl⟩⟩) | (go_at_call 105; (with_reducible refine (cmp_isNaN_int.calls a1 true _ A4.out).mono ?_); rintro e w' ⟨rfl, ⟨nd, rfl⟩⟩))
   go_ret
   exact ⟨by rfl, by repeat (first | exact Drawn0.refl _ | apply Drawn0.step)⟩
  replace c6 := Bool.eq_false_iff.mpr c6
  subst c6
  rw [if_neg (show ¬ (false = true) by decide)] at H
  obtain rfl := Option.some.inj H
  go_enter Tryz.func102, Tryz.ntmps102
  go_wp2_with (first | (go_at_call 105; (with_reducible refine (cmp_isNaN_int.calls a0 true _ A3.out).mono ?_); rintro e w' ⟨rfl, ⟨nd, rfl⟩⟩) | (go_at_call 105; (with_reducible refine (cmp_isNaN_int.calls a1 false _ A4.out).mono ?_); rintro e w' ⟨rfl, ⟨nd, rfl⟩⟩))
  go_ret
  exact ⟨by rfl, by repeat (first | exact Drawn0.refl _ | apply Drawn0.step)⟩
 replace c5 := Bool.eq_false_iff.mpr c5
 subst c5
 rw [if_neg (show ¬ (false = true) by decide)] at H
 by_cases c7 : t380 = true
 ·subst c7
  rw [if_pos rfl] at H
  obtain rfl := Option.some.inj H
  go_enter Tryz.func102, Tryz.ntmps102
  go_wp2_with (first | (go_at_call 105; (with_reducible refine (cmp_isNaN_int.calls a0 false _ A3.out).mono ?_); rintro e w' ⟨rfl, ⟨nd, rfl⟩⟩) | (go_at_call 105; (with_reducible refine (cmp_isNaN_int.calls a1 true _ A4.out).mono ?_); rintro e w' ⟨rfl, ⟨nd, rfl⟩⟩))
  go_ret
  exact ⟨by rfl, by repeat (first | exact Drawn0.refl _ | apply Drawn0.step)⟩
 replace c7 := Bool.eq_false_iff.mpr c7
 subst c7
 rw [if_neg (show ¬ (false = true) by decide)] at H
 by_cases c8 : a0 < a1
 ·rw [if_pos c8] at H
  have c8b0 := decide_eq_true c8
  clear c8
  obtain rfl := Option.some.inj H
  go_enter Tryz.func102, Tryz.ntmps102
  go_wp2_with (first | (go_at_call 105; (with_reducible refine (cmp_isNaN_int.calls a0 false _ A3.out).mono ?_); rintro e w' ⟨rfl, ⟨nd, rfl⟩⟩) | (go_at_call 105; (with_reducible refine (cmp_isNaN_int.calls a1 false _ A4.out).mono ?_); rintro e w' ⟨rfl, ⟨nd, rfl⟩⟩))
  go_ret
  exact ⟨by rfl, by repeat (first | exact Drawn0.refl _ | apply Drawn0.step)⟩
 rw [if_neg c8] at H
 have c8b0 := decide_eq_false c8
 clear c8
 by_cases c9 : a0 > a1
 ·rw [if_pos c9] at H
  have c9b0 : decide (a1 < a0) = true := decide_eq_true c9
  clear c9
  obtain rfl := Option.some.inj H
  go_enter Tryz.func102, Tryz.ntmps102
  go_wp2_with (first | (go_at_call 105; (with_reducible refine (cmp_isNaN_int.calls a0 false _ A3.out).mono ?_); rintro e w' ⟨rfl, ⟨nd, rfl⟩⟩) | (go_at_call 105; (with_reducible refine (cmp_isNaN_int.calls a1 false _ A4.out).mono ?_); rintro e w' ⟨rfl, ⟨nd, rfl⟩⟩))
  go_ret
  exact ⟨by rfl, by repeat (first | exact Drawn0.refl _ | apply Drawn0.step)⟩
 rw [if_neg c9] at H
 have c9b0 : decide (a1 < a0) = false := decide_eq_false c9
 clear c9
 obtain rfl := Option.some.inj H
 go_enter Tryz.func102, Tryz.ntmps102
 go_wp2_with (first | (go_at_call 105; (with_reducible refine (cmp_isNaN_int.calls a0 false _ A3.out).mono ?_); rintro e w' ⟨rfl, ⟨nd, rfl⟩⟩) | (go_at_call 105; (with_reducible refine (cmp_isNaN_int.calls a1 false _ A4.out).mono ?_); rintro e w' ⟨rfl, ⟨nd, rfl⟩⟩))
 go_ret
 exact ⟨by rfl, by repeat (first | exact Drawn0.refl _ | apply Drawn0.step)⟩
def impl_isBetter.f (k : Nat) (a0_0 : Int) (a0_1 : Int) (a0_2 : Int) (a0_3 : Bool) (a1_0 : Int) (a1_1 : Int) (a1_2 : Int) (a1_3 : Bool) : Option (Bool) := (cmp_Compare_int.f a1_1 a0_1).bind fun t383 => ((cmp_Compare_int.f a0_2 a1_2).bind fun t384 => ((cmp_Compare_int.f a0_0 a1_0).bind fun t385 => ((cmp_Or_int.f k (([t383, t384, t385] : List Int))).bind fun t389 => (some (decide (t389 < 0))))))
def impl_isBetter.T1 : Bool × List (List Nat × List Nat) := (true, [([], []), ([0], [0]), ([], []), ([2], [2]), ([1, 3], [1, 3]), ([], []), ([5], [5]), ([], []), ([7], [7]), ([6, 8, 4], [6, 8]), ([], []), ([10], [10]), ([], []), ([12], [12]), ([11, 13, 9], [11, 13]), ([4, 9, 14], [4, 9, 14]), ([15, 14], [15]), ([16], [16]), ([17, 16, 0, 1, 2, 3, 4, 5, 6, 7, 8, 9, 10, 11, 12, 13, 14, 15, 16, 17], [17])])
def impl_isBetter.B1 : List Nat := [0, 1, 0, 4, 15, 0, 32, 0, 128, 511, 0, 1024, 0, 4096, 16383, 32767, 65535, 131071, 262143]
theorem impl_isBetter.tab1 : rtab .any (opsOf Tryz.f91 1) = impl_isBetter.T1 := by kernel_rfl
theorem impl_isBetter.bits1 : waitsOk impl_isBetter.T1.2 impl_isBetter.B1 = true := by kernel_rfl
theorem impl_isBetter.calls (k a0_0 a0_1 a0_2 a0_3 a1_0 a1_1 a1_2 a1_3 r w) (h : impl_isBetter.f k a0_0 a0_1 a0_2 a0_3 a1_0 a1_1 a1_2 a1_3 = some r) :
  Calls Tryz.prog 91 #[.agg #[.int .i64 a0_0, .int .i64 a0_1, .int .i64 a0_2, .bool a0_3], .agg #[.int .i64 a1_0, .int .i64 a1_1, .int .i64 a1_2, .bool a1_3]] w fun e w' => e = .returned (.bool r) ∧ Below w.heap.size w w' := by
 have hu80 := Tryz.underlying58
 have HB := aM (Below.refl w.heap.size w)
 have H : ((cmp_Compare_int.f a1_1 a0_1).bind fun t383 => ((cmp_Compare_int.f a0_2 a1_2).bind fun t384 => ((cmp_Compare_int.f a0_0 a1_0).bind fun t385 => ((cmp_Or_int.f k (([t383, t384, t385] : List Int))).bind fun t389 => (some (decide (t389 < 0))))))) = some r := h
 clear h
 obtain ⟨t383, A3, H⟩ := bA_ H
 obtain ⟨t384, A4, H⟩ := bA_ H
 obtain ⟨t385, A5, H⟩ := bA_ H
 obtain ⟨y386, hy386⟩ : ∃ y_ : List Int, y_ = (([t383, t384, t385] : List Int)) := ⟨_, rfl⟩
 replace H : ((cmp_Or_int.f k y386).bind fun t389 => (some (decide (t389 < 0)))) = some r := by (rw [hy386]; with_reducible exact H)
 have Ny386 := aM hy386
 clear hy386
 obtain ⟨t389, A6, H⟩ := bA_ H
 obtain rfl := Option.some.inj H
 go_enter Tryz.func91, Tryz.ntmps91
 try go_wp2_with (first | ((with_reducible refine gate_dst (N := 2) rfl ?_); refine bxE HB ?_; intro gb381 hg w7 hb BK381 GW381 GE381 HB; clear hb hg) | ((with_reducible refine gate_dst (N := 3) rfl ?_); refine bxE HB ?_; intro gb382 hg w8 hb BK382 GW382 GE382 HB; have NB381_382 := bLT BK381.out hg; have NB382_381 := bGT BK381.out hg; replace BK381 := aK BK381 hb; clear hb hg))
 replace BK381 := aM (blk_drew BK381.out)
 replace BK382 := aM (blk_drew BK382.out)
 replace HB := aM (below_drew1 HB.out)
 refine start_ (n := 19) (S := fun w' => w'.cell? ⟨gb382, 0, none⟩ = some (.int .i64 a1_0) ∧ w'.cell? ⟨gb382, 1, none⟩ = some (.int .i64 a1_1) ∧ w'.cell? ⟨gb382, 2, none⟩ = some (.int .i64 a1_2) ∧ w'.cell? ⟨gb382, 3, none⟩ = some (.bool a1_3) ∧ w'.cell? ⟨gb381, 0, none⟩ = some (.int .i64 a0_0) ∧ w'.cell? ⟨gb381, 1, none⟩ = some (.int .i64 a0_1) ∧ w'.cell? ⟨gb381, 2, none⟩ = some (.int .i64 a0_2) ∧ w'.cell? ⟨gb381, 3, none⟩ = some (.bool a0_3)) (ds := []) (bA 19 0) (by kernel_rfl) rfl rfl (andc4 BK382.out ⟨(blk_cell BK381.out 0).trans rfl, (blk_cell BK381.out 1).trans rfl, (blk_cell BK381.out 2).trans rfl, (blk_cell BK381.out 3).trans rfl⟩) (fun hHeld => ?_); refine with_tabW impl_isBetter.tab1 impl_isBetter.bits1 (fun HT_ HW_ => ?_)
 generalize w8.drew = w9 at BK381 BK382 HB hHeld ⊢
 refine pu_ 0 5 (bA 19 1) HT_ ?_
 refine pu_ 2 7 (bA 19 5) HT_ ?_
 refine pu_ 5 10 (bA 19 37) HT_ ?_
 refine pu_ 7 12 (bA 19 165) HT_ ?_
 refine pu_ 10 15 (bA 19 1189) HT_ ?_
 refine pu_ 12 17 (bA 19 5285) HT_ ?_
 refine tk_ 1 6 (bA 19 5287) HT_ HW_ hHeld ?_
 refine tk_ 3 8 (bA 19 5295) HT_ HW_ hHeld ?_
 refine tk_ 6 11 (bA 19 5359) HT_ HW_ hHeld ?_
 refine tk_ 8 13 (bA 19 5615) HT_ HW_ hHeld ?_
 refine tk_ 11 16 (bA 19 7663) HT_ HW_ hHeld ?_
 refine tk_ 13 18 (bA 19 15855) HT_ HW_ hHeld ?_
 refine one_ (i := 4) (N := some 9) (bA 19 15871) rfl rfl (one_of HT_.out (by kernel_rfl)) (by decide) (fun K hK => ?_)
 refine goes_ Tryz.func102 (by kernel_rfl) rfl #[.int .i64 a1_1, .int .i64 a0_1] (by rfl) rfl rfl (by (try simp only [List.map_toArray, List.map_cons, List.map_nil]); rfl) ?_
 with_reducible refine (cmp_Compare_int.calls a1_1 a0_1 t383 _ A3.out).mono ?_
 rintro e w' ⟨rfl, ⟨nd, rfl⟩⟩
 refine ⟨_, rfl, ?_⟩
 refine hK.out _ _ (andc4 BK382.out ⟨(blk_cell BK381.out 0).trans rfl, (blk_cell BK381.out 1).trans rfl, (blk_cell BK381.out 2).trans rfl, (blk_cell BK381.out 3).trans rfl⟩) (fun hHeld => ?_)
 clear hK K
 refine norm_ (a' := ?_) ?_ ?_
 rotate_left
 ·show Act.put _ (some 9) _ = _
  simp only [Act.put, sb0, sb1, sb2, i64_w, i32_w]
  rfl
 refine one_ (i := 9) (N := some 14) (bA 19 16383) rfl rfl (one_of HT_.out (by kernel_rfl)) (by decide) (fun K hK => ?_)
 refine goes_ Tryz.func102 (by kernel_rfl) rfl #[.int .i64 a0_2, .int .i64 a1_2] (by rfl) rfl rfl (by (try simp only [List.map_toArray, List.map_cons, List.map_nil]); rfl) ?_
 with_reducible refine (cmp_Compare_int.calls a0_2 a1_2 t384 _ A4.out).mono ?_
 rintro e w' ⟨rfl, ⟨nd, rfl⟩⟩
 refine ⟨_, rfl, ?_⟩
 refine hK.out _ _ (andc4 BK382.out ⟨(blk_cell BK381.out 0).trans rfl, (blk_cell BK381.out 1).trans rfl, (blk_cell BK381.out 2).trans rfl, (blk_cell BK381.out 3).trans rfl⟩) (fun hHeld => ?_)
 clear hK K
 refine norm_ (a' := ?_) ?_ ?_
 rotate_left
 ·show Act.put _ (some 14) _ = _
  simp only [Act.put, sb0, sb1, sb2, i64_w, i32_w]
  rfl
 refine one_ (i := 14) (N := some 19) (bA 19 32767) rfl rfl (one_of HT_.out (by kernel_rfl)) (by decide) (fun K hK => ?_)
 refine goes_ Tryz.func102 (by kernel_rfl) rfl #[.int .i64 a0_0, .int .i64 a1_0] (by rfl) rfl rfl (by (try simp only [List.map_toArray, List.map_cons, List.map_nil]); rfl) ?_
 with_reducible refine (cmp_Compare_int.calls a0_0 a1_0 t385 _ A5.out).mono ?_
 rintro e w' ⟨rfl, ⟨nd, rfl⟩⟩
 refine ⟨_, rfl, ?_⟩
 refine hK.out _ _ (andc4 BK382.out ⟨(blk_cell BK381.out 0).trans rfl, (blk_cell BK381.out 1).trans rfl, (blk_cell BK381.out 2).trans rfl, (blk_cell BK381.out 3).trans rfl⟩) (fun hHeld => ?_)
 clear hK K
 refine norm_ (a' := ?_) ?_ ?_
 rotate_left
 ·show Act.put _ (some 19) _ = _
  simp only [Act.put, sb0, sb1, sb2, i64_w, i32_w]
  rfl
 refine one_ (i := 15) (N := some 20) (bA 19 65535) rfl rfl (one_of HT_.out (by kernel_rfl)) (by decide) (fun K hK => ?_)
 refine Kd.R_lit_step (Kd.int .i64) _ 3 ?hg (N := 20) ?hd (xs := ([t383, t384, t385] : List Int)) (inner := [.int .i64 t383, .int .i64 t384, .int .i64 t385]) (ok := fun _ => True) (okp := fun _ => True) ?hr ?hp (fun _ hk => hk) trivial (Below.refl _ _) (Nat.le_refl _) (by simp) ?_; (case hd => rfl); (case hg => rfl); (case hr => (go_simp; done)); (case hp => exact (Reps.one (show Kd.M (Kd.int .i64) _ _ _ t383 [.int .i64 t383] from rfl) (Reps.one (show Kd.M (Kd.int .i64) _ _ _ t384 [.int .i64 t384] from rfl) (Reps.one (show Kd.M (Kd.int .i64) _ _ _ t385 [.int .i64 t385] from rfl) (Reps.none _ _)))))
 intro v387 w10 ho11 hb hg_ hnew_
 clear hg_ hnew_
 (rw [← Ny386.out] at ho11)
 have HO388 := aM (Kd.R_lower ho11 (below_size (by repeat ((with_reducible first | exact HB.out | apply pw_below_drewN)))))
 replace BK381 := aM (blk_below (g := gb381) (o := .cells #[.int .i64 a0_0, .int .i64 a0_1, .int .i64 a0_2, .bool a0_3] 58 (0, 0)) (by (with_reducible repeat (refine blk_drewN ?_ _)); exact BK381.out) hb)
 replace BK382 := aM (blk_below (g := gb382) (o := .cells #[.int .i64 a1_0, .int .i64 a1_1, .int .i64 a1_2, .bool a1_3] 58 (0, 0)) (by (with_reducible repeat (refine blk_drewN ?_ _)); exact BK382.out) hb)
 replace HB := aM (below_step (by repeat ((with_reducible first | exact HB.out | apply pw_below_drewN))) hb)
 clear hb ho11
 obtain ⟨Ao12, co12, eo12⟩ := Kd.R_slice HO388.out
 (subst eo12)
 refine hK.out _ _ (andc4 BK382.out ⟨(blk_cell BK381.out 0).trans rfl, (blk_cell BK381.out 1).trans rfl, (blk_cell BK381.out 2).trans rfl, (blk_cell BK381.out 3).trans rfl⟩) (fun hHeld => ?_)
 clear hK K
 refine norm_ (a' := ?_) ?_ ?_
 rotate_left
 ·show Act.put _ (some 20) _ = _
  simp only [Act.put, sb0, sb1, sb2, i64_w, i32_w]
  rfl
 refine one_ (i := 16) (N := some 21) (bA 19 131071) rfl rfl (one_of HT_.out (by kernel_rfl)) (by decide) (fun K hK => ?_)
 refine goes_ Tryz.func101 (by kernel_rfl) rfl #[.slice Ao12 y386.length co12] (by rfl) rfl rfl (by (try simp only [List.map_toArray, List.map_cons, List.map_nil]); rfl) ?_
 with_reducible refine (cmp_Or_int.calls k _ _ y386 t389 _ ?side1 ?side2 A6.out).mono ?_
 (case side1 => repeat (exact (Kd.R_reads' HO388.out).2.2))
 (case side2 => exact (Kd.R_reads' HO388.out).2.1)
 rintro e w' ⟨rfl, ⟨nd, rfl⟩⟩
 refine ⟨_, rfl, ?_⟩
 refine hK.out _ _ (andc4 BK382.out ⟨(blk_cell BK381.out 0).trans rfl, (blk_cell BK381.out 1).trans rfl, (blk_cell BK381.out 2).trans rfl, (blk_cell BK381.out 3).trans rfl⟩) (fun hHeld => ?_)
 clear hK K
 refine norm_ (a' := ?_) ?_ ?_
 rotate_left
 ·show Act.put _ (some 21) _ = _
  simp only [Act.put, sb0, sb1, sb2, i64_w, i32_w]
  rfl
 refine pu_ 17 22 (bA 19 262143) HT_ ?_
 refine pu_ 18 4 (bA 19 524287) HT_ ?_
 refine done_ (done_of HT_.out (by kernel_rfl)) ?_
 try go_wp2
 go_ret
 exact ⟨by rfl, by repeat ((with_reducible first | exact HB.out | apply pw_below_drewN))⟩
def impl_bestRoute.l0 : Nat → List (S80) → Int → Int → Int → Int → Int → Bool → Option (Int × Int × Int × Bool)
 | 0, _, _, _, _, _, _, _ => none
 | k + 1, x9, x10, x11, x393000, x393001, x393002, x393003 => if x11 < x10 then (if 0 ≤ x11 then (if x11 < (x9.length : Int) then ((impl_isBetter.f k ((rd_T80 x9 x11).f0) ((rd_T80 x9 x11).f1) ((rd_T80 x9 x11).f2) ((rd_T80 x9 x11).f3) x393000 x393001 x393002 x393003).bind fun t395 => (if t395 = true then (impl_bestRoute.l0 k x9 x10 (wrap64 (x11 + 1)) ((rd_T80 x9 x11).f0) ((rd_T80 x9 x11).f1) ((rd_T80 x9 x11).f2) ((rd_T80 x9 x11).f3)) else (impl_bestRoute.l0 k x9 x10 (wrap64 (x11 + 1)) x393000 x393001 x393002 x393003))) else (none)) else (none)) else (some (x393000, x393001, x393002, x393003))
def impl_bestRoute.f (k : Nat) (l0 : List (S80)) : Option (Int × Int × Int × Bool) := if 0 < (l0.length : Int) then (impl_bestRoute.l0 k l0 (l0.length : Int) 0 ((rd_T80 l0 0).f0) ((rd_T80 l0 0).f1) ((rd_T80 l0 0).f2) ((rd_T80 l0 0).f3)) else (none)
theorem impl_bestRoute.calls (k A0 c0 l0 r1 r2 r3 r4 w) (hr0 : Kd.C k80 w A0 l0.length l0) (hc0 : l0.length ≤ c0) (h : impl_bestRoute.f k l0 = some (r1, r2, r3, r4)) :
  Calls Tryz.prog 63 #[.slice A0 l0.length c0] w fun e w' => e = .returned (.agg #[.int .i64 r1, .int .i64 r2, .int .i64 r3, .bool r4]) ∧ Below w.heap.size w w' := by
 have hu80 := Tryz.underlying58
 have HR0 := aM hr0
 have HC0 := aM hc0
 clear hr0 hc0
 have HB := aM (Below.refl w.heap.size w)
 have H : (if 0 < (l0.length : Int) then (impl_bestRoute.l0 k l0 (l0.length : Int) 0 ((rd_T80 l0 0).f0) ((rd_T80 l0 0).f1) ((rd_T80 l0 0).f2) ((rd_T80 l0 0).f3)) else (none)) = some (r1, r2, r3, r4) := h
 clear h
 obtain ⟨c2, H⟩ := iP H
 have c2b0 : decide (0 < (l0.length : Int)) = true := decide_eq_true c2
 have c2b1 : decide (0 < l0.length) = true := decide_eq_true (by omega)
 clear c2
 have H' := aM H
 clear H
 go_enter Tryz.func63, Tryz.ntmps63
 go_wp2_with (first | ((with_reducible refine gate_dst (N := 2) rfl ?_); refine bxE HB ?_; intro gb390 hg w3 hb BK390 GW390 GE390 HB; clear hb hg; have p391 : 0 ≤ (0 : Int) := (by omega); have q391 : 0 < (l0.length : Int) := oD ‹_›; obtain ⟨ad391, e391, hx391_0, hx391_1, hx391_2, hx391_3⟩ := at_T80 HR0.out 0 p391 q391; cases e391; have qi391 : (0 < l0.length) = True := eq_true (by omega); (try rw [show ((0 : Int)).toNat = 0 from rfl] at hx391_0); (try rw [show 0 * 4 = 0 from rfl] at hx391_0); (try rw [Addr.add_zero'] at hx391_0); (try rw [show ((0 : Int)).toNat = 0 from rfl] at hx391_1); (try rw [show 0 * 4 = 0 from rfl] at hx391_1); (try rw [Addr.add_zero'] at hx391_1); (try rw [show ((0 : Int)).toNat = 0 from rfl] at hx391_2); (try rw [show 0 * 4 = 0 from rfl] at hx391_2); (try rw [Addr.add_zero'] at hx391_2); (try rw [show ((0 : Int)).toNat = 0 from rfl] at hx391_3); (try rw [show 0 * 4 = 0 from rfl] at hx391_3); (try rw [Addr.add_zero'] at hx391_3); replace hx391_0 := swB HB.out hx391_0; replace hx391_1 := swB HB.out hx391_1; replace hx391_2 := swB HB.out hx391_2; replace hx391_3 := swB HB.out hx391_3; replace p391 := eq_true p391; replace q391 := eq_true q391) | ((with_reducible refine gate_dst (N := 3) rfl ?_); refine bxE HB ?_; intro gb392 hg w4 hb BK392 GW392 GE392 HB; have NB390_392 := bLT BK390.out hg; have NB392_390 := bGT BK390.out hg; replace BK390 := aK BK390 hb; clear hb hg; have hnb5 := NB392_390.out; have hnc5 := NB390_392.out; obtain ⟨hcz6_0, hcz6_1, hcz6_2, hcz6_3⟩ := swc4 BK392.out; obtain ⟨hfz6_0, hfz6_1, hfz6_2, hfz6_3⟩ := swf4 BK392.out))
 go_loopg [11] k (fun kq v11 w' => ∃ (x11_1 : Int) (x393000_1 : Int) (x393001_1 : Int) (x393002_1 : Int) (x393003_1 : Bool), v11 = .int .i64 x11_1 ∧ Aside0 (impl_bestRoute.l0 kq l0 (l0.length : Int) x11_1 x393000_1 x393001_1 x393002_1 x393003_1 = some (r1, r2, r3, r4)) ∧ Aside0 (kq ≤ k) ∧ Aside0 (w'.heap[gb390]? = some (.cells #[.int .i64 0, .int .i64 0, .int .i64 0, .bool false] 58 (0, 0))) ∧ Aside0 (w'.heap[gb392]? = some (.cells #[.int .i64 x393000_1, .int .i64 x393001_1, .int .i64 x393002_1, .bool x393003_1] 58 (0, 0))) ∧ Aside0 (Below w.heap.size w w'))
 case atStart => exact ⟨(0), ((rd_T80 l0 0).f0), ((rd_T80 l0 0).f1), ((rd_T80 l0 0).f2), ((rd_T80 l0 0).f3), (by rfl), H', ⟨Nat.le_refl _⟩, ⟨by refine blk_far ?_ NB390_392.out _; refine blk_far ?_ NB390_392.out _; refine blk_far ?_ NB390_392.out _; refine blk_far ?_ NB390_392.out _; exact BK390.out⟩, ⟨by refine blk_put (cs := #[.int .i64 ((rd_T80 l0 0).f0), .int .i64 ((rd_T80 l0 0).f1), .int .i64 ((rd_T80 l0 0).f2), .bool false]) ?_ 3 _ rfl; refine blk_put (cs := #[.int .i64 ((rd_T80 l0 0).f0), .int .i64 ((rd_T80 l0 0).f1), .int .i64 0, .bool false]) ?_ 2 _ rfl; refine blk_put (cs := #[.int .i64 ((rd_T80 l0 0).f0), .int .i64 0, .int .i64 0, .bool false]) ?_ 1 _ rfl; refine blk_put (cs := #[.int .i64 0, .int .i64 0, .int .i64 0, .bool false]) ?_ 0 _ rfl; exact BK392.out⟩, ⟨by repeat ((with_reducible first | exact HB.out | refine below_set ?_ GE392.out))⟩⟩
 clear H'
 clear c2b0 c2b1 hcz6_0 hcz6_1 hcz6_2 hcz6_3 hfz6_0 hfz6_1 hfz6_2 hfz6_3 hx391_0 hx391_1 hx391_2 hx391_3 p391 q391
 obtain ⟨x11_1, x393000_1, x393001_1, x393002_1, x393003_1, rfl, HA, HK1, BK390, BK392, HB⟩ := hrel
 cases gk with
 | zero => exact absurd HA.out (by simp [impl_bestRoute.l0])
 | succ k1 =>
  obtain ⟨H⟩ := HA
  simp only [impl_bestRoute.l0] at H
  by_cases c7 : x11_1 < (l0.length : Int)
  rotate_left
  ·rw [if_neg c7] at H
   have c7b0 := decide_eq_false c7
   clear c7
   simp only [Option.some.injEq, Prod.mk.injEq] at H
   obtain ⟨rfl, rfl, rfl, rfl⟩ := H
   have hnb28 := NB392_390.out
   have hnc28 := NB390_392.out
   obtain ⟨hcz29_0, hcz29_1, hcz29_2, hcz29_3⟩ := swc4 BK392.out
   obtain ⟨hfz29_0, hfz29_1, hfz29_2, hfz29_3⟩ := swf4 BK392.out
   obtain ⟨hcz30_0, hcz30_1, hcz30_2, hcz30_3⟩ := swc4 BK390.out
   obtain ⟨hfz30_0, hfz30_1, hfz30_2, hfz30_3⟩ := swf4 BK390.out
   go_wp2
   refine bodyPost_ret (results_cell_row rfl _ _ gb390 58 #[.int .i64 x393000_1, .int .i64 x393001_1, .int .i64 x393002_1, .bool x393003_1] (0, 0) _ rfl (by refine blk_put (cs := #[.int .i64 x393000_1, .int .i64 x393001_1, .int .i64 x393002_1, .bool false]) ?_ 3 _ rfl; refine blk_put (cs := #[.int .i64 x393000_1, .int .i64 x393001_1, .int .i64 0, .bool false]) ?_ 2 _ rfl; refine blk_put (cs := #[.int .i64 x393000_1, .int .i64 0, .int .i64 0, .bool false]) ?_ 1 _ rfl; refine blk_put (cs := #[.int .i64 0, .int .i64 0, .int .i64 0, .bool false]) ?_ 0 _ rfl; exact BK390.out) Tryz.underlying58 rfl (by kernel_rfl)) rfl ?_
   exact ⟨by rfl, by repeat ((with_reducible first | exact HB.out | refine below_set ?_ GE390.out))⟩
  rw [if_pos c7] at H
  have c7b0 := decide_eq_true c7
  clear c7
  obtain ⟨c8b0, H⟩ := iD H
  obtain ⟨c9b0, H⟩ := iD H
  obtain ⟨t395, A10, H⟩ := bA_ H
  by_cases c11 : t395 = true
  rotate_left
  ·replace c11 := Bool.eq_false_iff.mpr c11
   subst c11
   rw [if_neg (show ¬ (false = true) by decide)] at H
   have H' := aM H
   clear H
   have p393 : 0 ≤ (x11_1 : Int) := oD ‹_›
   have q393 : x11_1 < (l0.length : Int) := oD ‹_›
   obtain ⟨ad393, e393, hx393_0, hx393_1, hx393_2, hx393_3⟩ := at_T80 HR0.out x11_1 p393 q393
   obtain rfl : ad391 = ad393 := (by injection e393)
   replace hx393_0 := swB HB.out hx393_0
   replace hx393_1 := swB HB.out hx393_1
   replace hx393_2 := swB HB.out hx393_2
   replace hx393_3 := swB HB.out hx393_3
   replace p393 := eq_true p393
   replace q393 := eq_true q393
   go_wp2_with (first | ((with_reducible refine gate_dst (N := 5) rfl ?_); refine bxE HB ?_; intro gb394 hg w21 hb BK394 GW394 GE394 HB; have NB390_394 := bLT BK390.out hg; have NB394_390 := bGT BK390.out hg; replace BK390 := aK BK390 hb; have NB392_394 := bLT BK392.out hg; have NB394_392 := bGT BK392.out hg; replace BK392 := aK BK392 hb; clear hb hg; have hnb22 := NB394_390.out; have hnc22 := NB390_394.out; have hnb23 := NB394_392.out; have hnc23 := NB392_394.out; obtain ⟨hcz24_0, hcz24_1, hcz24_2, hcz24_3⟩ := swc4 BK394.out; obtain ⟨hfz24_0, hfz24_1, hfz24_2, hfz24_3⟩ := swf4 BK394.out; have hnb25 := NB392_390.out; have hnc25 := NB390_392.out; obtain ⟨hcz26_0, hcz26_1, hcz26_2, hcz26_3⟩ := swc4 BK392.out; obtain ⟨hfz26_0, hfz26_1, hfz26_2, hfz26_3⟩ := swf4 BK392.out) | (go_at_call 91; (with_reducible refine (impl_isBetter.calls k1 ((rd_T80 l0 x11_1).f0) ((rd_T80 l0 x11_1).f1) ((rd_T80 l0 x11_1).f2) ((rd_T80 l0 x11_1).f3) x393000_1 x393001_1 x393002_1 x393003_1 false _ A10.out).mono ?_); rintro e w27 ⟨rfl, hb⟩; replace BK390 := aM (blk_below (g := gb390) (o := .cells #[.int .i64 0, .int .i64 0, .int .i64 0, .bool false] 58 (0, 0)) (by refine blk_far ?_ NB390_394.out _; refine blk_far ?_ NB390_394.out _; refine blk_far ?_ NB390_394.out _; refine blk_far ?_ NB390_394.out _; exact BK390.out) hb); replace BK392 := aM (blk_below (g := gb392) (o := .cells #[.int .i64 x393000_1, .int .i64 x393001_1, .int .i64 x393002_1, .bool x393003_1] 58 (0, 0)) (by refine blk_far ?_ NB392_394.out _; refine blk_far ?_ NB392_394.out _; refine blk_far ?_ NB392_394.out _; refine blk_far ?_ NB392_394.out _; exact BK392.out) hb); replace BK394 := aM (blk_below (g := gb394) (o := .cells #[.int .i64 ((rd_T80 l0 x11_1).f0), .int .i64 ((rd_T80 l0 x11_1).f1), .int .i64 ((rd_T80 l0 x11_1).f2), .bool ((rd_T80 l0 x11_1).f3)] 58 (0, 0)) (by refine blk_put (cs := #[.int .i64 ((rd_T80 l0 x11_1).f0), .int .i64 ((rd_T80 l0 x11_1).f1), .int .i64 ((rd_T80 l0 x11_1).f2), .bool false]) ?_ 3 _ rfl; refine blk_put (cs := #[.int .i64 ((rd_T80 l0 x11_1).f0), .int .i64 ((rd_T80 l0 x11_1).f1), .int .i64 0, .bool false]) ?_ 2 _ rfl; refine blk_put (cs := #[.int .i64 ((rd_T80 l0 x11_1).f0), .int .i64 0, .int .i64 0, .bool false]) ?_ 1 _ rfl; refine blk_put (cs := #[.int .i64 0, .int .i64 0, .int .i64 0, .bool false]) ?_ 0 _ rfl; exact BK394.out) hb); replace HB := aM (below_step (by repeat ((with_reducible first | exact HB.out | refine below_set ?_ GE394.out))) hb); (try clear hb)))
   go_roundg k1
   case measure => have := HK1.out; omega
   case rel => exact ⟨(wrap64 (x11_1 + 1)), (x393000_1), (x393001_1), (x393002_1), (x393003_1), (by rfl), H', ⟨by have := HK1.out; omega⟩, ⟨by exact BK390.out⟩, ⟨by exact BK392.out⟩, ⟨by repeat ((with_reducible exact HB.out))⟩⟩
  subst c11
  rw [if_pos rfl] at H
  have H' := aM H
  clear H
  have p393 : 0 ≤ (x11_1 : Int) := oD ‹_›
  have q393 : x11_1 < (l0.length : Int) := oD ‹_›
  obtain ⟨ad393, e393, hx393_0, hx393_1, hx393_2, hx393_3⟩ := at_T80 HR0.out x11_1 p393 q393
  obtain rfl : ad391 = ad393 := (by injection e393)
  replace hx393_0 := swB HB.out hx393_0
  replace hx393_1 := swB HB.out hx393_1
  replace hx393_2 := swB HB.out hx393_2
  replace hx393_3 := swB HB.out hx393_3
  replace p393 := eq_true p393
  replace q393 := eq_true q393
  go_wp2_with (first | ((with_reducible refine gate_dst (N := 5) rfl ?_); refine bxE HB ?_; intro gb394 hg w12 hb BK394 GW394 GE394 HB; have NB390_394 := bLT BK390.out hg; have NB394_390 := bGT BK390.out hg; replace BK390 := aK BK390 hb; have NB392_394 := bLT BK392.out hg; have NB394_392 := bGT BK392.out hg; replace BK392 := aK BK392 hb; clear hb hg; have hnb13 := NB394_390.out; have hnc13 := NB390_394.out; have hnb14 := NB394_392.out; have hnc14 := NB392_394.out; obtain ⟨hcz15_0, hcz15_1, hcz15_2, hcz15_3⟩ := swc4 BK394.out; obtain ⟨hfz15_0, hfz15_1, hfz15_2, hfz15_3⟩ := swf4 BK394.out; have hnb16 := NB392_390.out; have hnc16 := NB390_392.out; obtain ⟨hcz17_0, hcz17_1, hcz17_2, hcz17_3⟩ := swc4 BK392.out; obtain ⟨hfz17_0, hfz17_1, hfz17_2, hfz17_3⟩ := swf4 BK392.out) | (go_at_call 91; (with_reducible refine (impl_isBetter.calls k1 ((rd_T80 l0 x11_1).f0) ((rd_T80 l0 x11_1).f1) ((rd_T80 l0 x11_1).f2) ((rd_T80 l0 x11_1).f3) x393000_1 x393001_1 x393002_1 x393003_1 true _ A10.out).mono ?_); rintro e w18 ⟨rfl, hb⟩; replace BK390 := aM (blk_below (g := gb390) (o := .cells #[.int .i64 0, .int .i64 0, .int .i64 0, .bool false] 58 (0, 0)) (by refine blk_far ?_ NB390_394.out _; refine blk_far ?_ NB390_394.out _; refine blk_far ?_ NB390_394.out _; refine blk_far ?_ NB390_394.out _; exact BK390.out) hb); replace BK392 := aM (blk_below (g := gb392) (o := .cells #[.int .i64 x393000_1, .int .i64 x393001_1, .int .i64 x393002_1, .bool x393003_1] 58 (0, 0)) (by refine blk_far ?_ NB392_394.out _; refine blk_far ?_ NB392_394.out _; refine blk_far ?_ NB392_394.out _; refine blk_far ?_ NB392_394.out _; exact BK392.out) hb); replace BK394 := aM (blk_below (g := gb394) (o := .cells #[.int .i64 ((rd_T80 l0 x11_1).f0), .int .i64 ((rd_T80 l0 x11_1).f1), .int .i64 ((rd_T80 l0 x11_1).f2), .bool ((rd_T80 l0 x11_1).f3)] 58 (0, 0)) (by refine blk_put (cs := #[.int .i64 ((rd_T80 l0 x11_1).f0), .int .i64 ((rd_T80 l0 x11_1).f1), .int .i64 ((rd_T80 l0 x11_1).f2), .bool false]) ?_ 3 _ rfl; refine blk_put (cs := #[.int .i64 ((rd_T80 l0 x11_1).f0), .int .i64 ((rd_T80 l0 x11_1).f1), .int .i64 0, .bool false]) ?_ 2 _ rfl; refine blk_put (cs := #[.int .i64 ((rd_T80 l0 x11_1).f0), .int .i64 0, .int .i64 0, .bool false]) ?_ 1 _ rfl; refine blk_put (cs := #[.int .i64 0, .int .i64 0, .int .i64 0, .bool false]) ?_ 0 _ rfl; exact BK394.out) hb); replace HB := aM (below_step (by repeat ((with_reducible first | exact HB.out | refine below_set ?_ GE394.out))) hb); (try clear hb); obtain ⟨hcz19_0, hcz19_1, hcz19_2, hcz19_3⟩ := swc4 BK394.out; obtain ⟨hfz19_0, hfz19_1, hfz19_2, hfz19_3⟩ := swf4 BK394.out; obtain ⟨hcz20_0, hcz20_1, hcz20_2, hcz20_3⟩ := swc4 BK392.out; obtain ⟨hfz20_0, hfz20_1, hfz20_2, hfz20_3⟩ := swf4 BK392.out))
  go_roundg k1
  case measure => have := HK1.out; omega
  case rel => exact ⟨(wrap64 (x11_1 + 1)), ((rd_T80 l0 x11_1).f0), ((rd_T80 l0 x11_1).f1), ((rd_T80 l0 x11_1).f2), ((rd_T80 l0 x11_1).f3), (by rfl), H', ⟨by have := HK1.out; omega⟩, ⟨by refine blk_far ?_ NB390_392.out _; refine blk_far ?_ NB390_392.out _; refine blk_far ?_ NB390_392.out _; refine blk_far ?_ NB390_392.out _; exact BK390.out⟩, ⟨by refine blk_put (cs := #[.int .i64 ((rd_T80 l0 x11_1).f0), .int .i64 ((rd_T80 l0 x11_1).f1), .int .i64 ((rd_T80 l0 x11_1).f2), .bool x393003_1]) ?_ 3 _ rfl; refine blk_put (cs := #[.int .i64 ((rd_T80 l0 x11_1).f0), .int .i64 ((rd_T80 l0 x11_1).f1), .int .i64 x393002_1, .bool x393003_1]) ?_ 2 _ rfl; refine blk_put (cs := #[.int .i64 ((rd_T80 l0 x11_1).f0), .int .i64 x393001_1, .int .i64 x393002_1, .bool x393003_1]) ?_ 1 _ rfl; refine blk_put (cs := #[.int .i64 x393000_1, .int .i64 x393001_1, .int .i64 x393002_1, .bool x393003_1]) ?_ 0 _ rfl; exact BK392.out⟩, ⟨by repeat ((with_reducible first | exact HB.out | refine below_set ?_ GE392.out))⟩⟩
def impl_bestRoutes.l0 : Nat → List Int → List Bool → List (S80) → List (S80) → Int → Int → List ByteArray → List (S92) → List Int → List Int → List (S95) → List (S97) → Option ((List (S80)))
 | 0, _, _, _, _, _, _, _, _, _, _, _, _ => none
 | k + 1, x1, x2, x3, x9, x15, x16, x397000, x397001, x397002, x397003, x397004, x397005 => if x16 < x15 then ((impl_candidates.f k x397000 x397001 x397002 x397003 x397004 x397005 x16 x1 x2 x3).bind fun t398 => (if (t398.length : Int) > 0 then ((impl_bestRoute.f k t398).bind fun bt401 => (if x9.length < 4398046511104 then (impl_bestRoutes.l0 k x1 x2 x3 (x9 ++ [(⟨bt401.1, bt401.2.1, bt401.2.2.1, bt401.2.2.2⟩ : S80)]) x15 (wrap64 (x16 + 1)) x397000 x397001 x397002 x397003 x397004 x397005) else (none))) else (if x9.length < 4398046511104 then (impl_bestRoutes.l0 k x1 x2 x3 (x9 ++ [(⟨(-3), 0, 0, false⟩ : S80)]) x15 (wrap64 (x16 + 1)) x397000 x397001 x397002 x397003 x397004 x397005) else (none)))) else (some x9)
def impl_bestRoutes.f (k : Nat) (l0_0 : List ByteArray) (l0_1 : List (S92)) (l0_2 : List Int) (l0_3 : List Int) (l0_4 : List (S95)) (l0_5 : List (S97)) (l1 : List Int) (l2 : List Bool) (l3 : List (S80)) : Option ((List (S80))) := impl_bestRoutes.l0 k l1 l2 l3 ([] : List (S80)) (l0_0.length : Int) 0 l0_0 l0_1 l0_2 l0_3 l0_4 l0_5
theorem impl_bestRoutes.calls (k A0_0 c0_0 l0_0 A0_1 c0_1 l0_1 A0_2 c0_2 l0_2 A0_3 c0_3 l0_3 A0_4 c0_4 l0_4 A0_5 c0_5 l0_5 A1 c1 l1 A2 c2 l2 A3 c3 l3 r w) (hr0_0 : Kd.C Kd.string w A0_0 l0_0.length l0_0) (hc0_0 : l0_0.length ≤ c0_0) (hr0_1 : Kd.C k92 w A0_1 l0_1.length l0_1) (hc0_1 : l0_1.length ≤ c0_1) (hr0_2 : Kd.C (Kd.int .i64) w A0_2 l0_2.length l0_2) (hc0_2 : l0_2.length ≤ c0_2) (hr0_3 : Kd.C (Kd.int .i64) w A0_3 l0_3.length l0_3) (hc0_3 : l0_3.length ≤ c0_3) (hr0_4 : Kd.C k95 w A0_4 l0_4.length l0_4) (hc0_4 : l0_4.length ≤ c0_4) (hr0_5 : Kd.C k97 w A0_5 l0_5.length l0_5) (hc0_5 : l0_5.length ≤ c0_5) (hr1 : Kd.C (Kd.int .i64) w A1 l1.length l1) (hc1 : l1.length ≤ c1) (hr2 : Kd.C Kd.bool w A2 l2.length l2) (hc2 : l2.length ≤ c2) (hr3 : Kd.C k80 w A3 l3.length l3) (hc3 : l3.length ≤ c3) (h : impl_bestRoutes.f k l0_0 l0_1 l0_2 l0_3 l0_4 l0_5 l1 l2 l3 = some r) :
  Calls Tryz.prog 37 #[.agg #[.slice A0_0 l0_0.length c0_0, .slice A0_1 l0_1.length c0_1, .slice A0_2 l0_2.length c0_2, .slice A0_3 l0_3.length c0_3, .slice A0_4 l0_4.length c0_4, .slice A0_5 l0_5.length c0_5], .slice A1 l1.length c1, .slice A2 l2.length c2, .slice A3 l3.length c3] w fun e w' => ∃ v0_ : Value, e = .returned (v0_) ∧ Kd.R k80 58 w' w.heap.size (fun _ => True) v0_ r ∧ Below w.heap.size w w' := by
 have hu38 := Tryz.underlying38
 have hu80 := Tryz.underlying58
 obtain ⟨HR0_0, HC0_0, HR0_1, HC0_1, HR0_2, HC0_2, HR0_3, HC0_3, HR0_4, HC0_4, HR0_5, HC0_5⟩ := as12 hr0_0 hc0_0 hr0_1 hc0_1 hr0_2 hc0_2 hr0_3 hc0_3 hr0_4 hc0_4 hr0_5 hc0_5
 clear hr0_0 hc0_0 hr0_1 hc0_1 hr0_2 hc0_2 hr0_3 hc0_3 hr0_4 hc0_4 hr0_5 hc0_5
 have HR1 := aM hr1
 have HC1 := aM hc1
 clear hr1 hc1
 have HR2 := aM hr2
 have HC2 := aM hc2
 clear hr2 hc2
 have HR3 := aM hr3
 have HC3 := aM hc3
 clear hr3 hc3
 have HB := aM (Below.refl w.heap.size w)
 have H : (impl_bestRoutes.l0 k l1 l2 l3 ([] : List (S80)) (l0_0.length : Int) 0 l0_0 l0_1 l0_2 l0_3 l0_4 l0_5) = some r := h
 clear h
 have H' := aM H
 clear H
 go_enter Tryz.func37, Tryz.ntmps37
 go_wp2_with (((with_reducible refine gate_dst (N := 4) rfl ?_); refine bxE HB ?_; intro gb396 hg w5 hb BK396 GW396 GE396 HB; clear hb hg; obtain ⟨hcz6_0, hcz6_1, hcz6_2, hcz6_3, hcz6_4, hcz6_5⟩ := swc6 BK396.out; obtain ⟨hfz6_0, hfz6_1, hfz6_2, hfz6_3, hfz6_4, hfz6_5⟩ := swf6 BK396.out))
 go_loopg [9, 16] k (fun kq v9 v16 w' => ∃ (x9_1 : List (S80)) (x16_1 : Int), v16 = .int .i64 x16_1 ∧ Aside0 (impl_bestRoutes.l0 kq l1 l2 l3 x9_1 (l0_0.length : Int) x16_1 l0_0 l0_1 l0_2 l0_3 l0_4 l0_5 = some r) ∧ Aside0 (kq ≤ k) ∧ Aside0 (Kd.R k80 58 w' w.heap.size (fun _ => True) v9 x9_1) ∧ Aside0 (w'.heap[gb396]? = some (.cells #[(.slice A0_0 l0_0.length c0_0), (.slice A0_1 l0_1.length c0_1), (.slice A0_2 l0_2.length c0_2), (.slice A0_3 l0_3.length c0_3), (.slice A0_4 l0_4.length c0_4), (.slice A0_5 l0_5.length c0_5)] 38 (0, 0))) ∧ Aside0 (Below w.heap.size w w'))
 case atStart => exact ⟨(([] : List (S80))), (0), (by rfl), H', ⟨Nat.le_refl _⟩, ⟨by exact Kd.R_nil _ _ _ _ _⟩, ⟨by exact BK396.out⟩, ⟨by repeat ((with_reducible exact HB.out))⟩⟩
 clear H'
 clear hcz6_0 hcz6_1 hcz6_2 hcz6_3 hcz6_4 hcz6_5 hfz6_0 hfz6_1 hfz6_2 hfz6_3 hfz6_4 hfz6_5
 obtain ⟨x9_1, x16_1, rfl, HA, HK1, HO_9, BK396, HB⟩ := hrel
 cases gk with
 | zero => exact absurd HA.out (by simp [impl_bestRoutes.l0])
 | succ k1 =>
  obtain ⟨H⟩ := HA
  simp only [impl_bestRoutes.l0] at H
  by_cases c7 : x16_1 < (l0_0.length : Int)
  rotate_left
  ·rw [if_neg c7] at H
   have c7b0 := decide_eq_false c7
   clear c7
   obtain rfl := Option.some.inj H
   go_wp2
   go_ret
   exact ⟨_, by rfl, by exact HO_9.out, by repeat ((with_reducible exact HB.out))⟩
  rw [if_pos c7] at H
  have c7b0 := decide_eq_true c7
  clear c7
  obtain ⟨t398, A8, H⟩ := bA_ H
  by_cases c9 : (t398.length : Int) > 0
  rotate_left
  ·rw [if_neg c9] at H
   have c9b0 : decide (0 < (t398.length : Int)) = false := decide_eq_false c9
   have c9b1 : decide (0 < t398.length) = false := decide_eq_false (by omega)
   clear c9
   obtain ⟨c21, H⟩ := iP H
   have LMc21 := aM c21
   clear c21
   obtain ⟨y408, hy408⟩ : ∃ y_ : List (S80), y_ = (x9_1 ++ [(⟨(-3), 0, 0, false⟩ : S80)]) := ⟨_, rfl⟩
   replace H : (impl_bestRoutes.l0 k1 l1 l2 l3 y408 (l0_0.length : Int) (wrap64 (x16_1 + 1)) l0_0 l0_1 l0_2 l0_3 l0_4 l0_5) = some r := by (rw [hy408]; with_reducible exact H)
   have Ny408 := aM hy408
   clear hy408
   have H' := aM H
   clear H
   go_wp2_with (first | ((with_reducible refine gate_dst (N := 11) rfl ?_); refine box_event rfl (N := 11) rfl (cs := #[.int .i64 0, .int .i64 0, .int .i64 0, .bool false]) (t := 58) (by go_simp; done) ?_; intro gb397 hg w22 hbox hb; replace HO_9 := aM (Kd.R_below (Kd.R_elderB HO_9.out gb397 (Nat.le_of_eq hg.symm)) hb); have BK397 := aM (hbox); have GW397 := bGE HB.out hg; have GE397 := bGE HB.out hg; replace HB := aB HB hb; have NB396_397 := bLT BK396.out hg; have NB397_396 := bGT BK396.out hg; replace BK396 := aK BK396 hb; clear hb hbox hg; have hnb23 := NB397_396.out; have hnc23 := NB396_397.out; obtain ⟨hcz24_0, hcz24_1, hcz24_2, hcz24_3⟩ := swc4 BK397.out; obtain ⟨hfz24_0, hfz24_1, hfz24_2, hfz24_3⟩ := swf4 BK397.out; obtain ⟨hcz25_0, hcz25_1, hcz25_2, hcz25_3, hcz25_4, hcz25_5⟩ := swc6 BK396.out; obtain ⟨hfz25_0, hfz25_1, hfz25_2, hfz25_3, hfz25_4, hfz25_5⟩ := swf6 BK396.out) | (go_at_call 62; (with_reducible refine (impl_candidates.calls k1 _ _ l0_0 _ _ l0_1 _ _ l0_2 _ _ l0_3 _ _ l0_4 _ _ l0_5 x16_1 _ _ l1 _ _ l2 _ _ l3 t398 _ (Kd.C_below HR0_0.out (by repeat ((with_reducible first | exact HB.out | refine below_set ?_ GE397.out)))) HC0_0.out (Kd.C_below HR0_1.out (by repeat ((with_reducible first | exact HB.out | refine below_set ?_ GE397.out)))) HC0_1.out (Kd.C_below HR0_2.out (by repeat ((with_reducible first | exact HB.out | refine below_set ?_ GE397.out)))) HC0_2.out (Kd.C_below HR0_3.out (by repeat ((with_reducible first | exact HB.out | refine below_set ?_ GE397.out)))) HC0_3.out (Kd.C_below HR0_4.out (by repeat ((with_reducible first | exact HB.out | refine below_set ?_ GE397.out)))) HC0_4.out (Kd.C_below HR0_5.out (by repeat ((with_reducible first | exact HB.out | refine below_set ?_ GE397.out)))) HC0_5.out (Kd.C_below HR1.out (by repeat ((with_reducible first | exact HB.out | refine below_set ?_ GE397.out)))) HC1.out (Kd.C_below HR2.out (by repeat ((with_reducible first | exact HB.out | refine below_set ?_ GE397.out)))) HC2.out (Kd.C_below HR3.out (by repeat ((with_reducible first | exact HB.out | refine below_set ?_ GE397.out)))) HC3.out A8.out).mono ?_); rintro e w26 ⟨v399, rfl, ho0, hb⟩; have HO400 := aM (Kd.R_lower (Kd.R_newB (Kd.R_new' ho0 (Kd.R_lt (by exact (Kd.R_mono (Kd.R_far (p := ⟨gb397, 3, none⟩) (Kd.R_far (p := ⟨gb397, 2, none⟩) (Kd.R_far (p := ⟨gb397, 1, none⟩) (Kd.R_far (p := ⟨gb397, 0, none⟩) (Kd.R_mono HO_9.out (fun k_ hk => (⟨hk, hk.2⟩ : _ ∧ k_ ≠ gb397))) (fun _ hk => hk.2) (.int .i64 (-3))) (fun _ hk => hk.2) (.int .i64 0)) (fun _ hk => hk.2) (.int .i64 0)) (fun _ hk => hk.2) (.bool false)) (fun _ h_ => h_.1))))) (g := gb397) (o := .cells #[.int .i64 (-3), .int .i64 0, .int .i64 0, .bool false] 58 (0, 0)) (by refine blk_put (cs := #[.int .i64 (-3), .int .i64 0, .int .i64 0, .bool false]) ?_ 3 _ rfl; refine blk_put (cs := #[.int .i64 (-3), .int .i64 0, .int .i64 0, .bool false]) ?_ 2 _ rfl; refine blk_put (cs := #[.int .i64 (-3), .int .i64 0, .int .i64 0, .bool false]) ?_ 1 _ rfl; refine blk_put (cs := #[.int .i64 0, .int .i64 0, .int .i64 0, .bool false]) ?_ 0 _ rfl; exact BK397.out)) (below_size (by repeat ((with_reducible first | exact HB.out | refine below_set ?_ GE397.out))))); replace HO_9 := aM (Kd.R_elder' (by exact (Kd.R_mono (Kd.R_far (p := ⟨gb397, 3, none⟩) (Kd.R_far (p := ⟨gb397, 2, none⟩) (Kd.R_far (p := ⟨gb397, 1, none⟩) (Kd.R_far (p := ⟨gb397, 0, none⟩) (Kd.R_mono HO_9.out (fun k_ hk => (⟨hk, hk.2⟩ : _ ∧ k_ ≠ gb397))) (fun _ hk => hk.2) (.int .i64 (-3))) (fun _ hk => hk.2) (.int .i64 0)) (fun _ hk => hk.2) (.int .i64 0)) (fun _ hk => hk.2) (.bool false)) (fun _ h_ => h_.1))) (Kd.R_base ho0) hb); replace BK396 := aM (blk_below (g := gb396) (o := .cells #[.slice A0_0 l0_0.length c0_0, .slice A0_1 l0_1.length c0_1, .slice A0_2 l0_2.length c0_2, .slice A0_3 l0_3.length c0_3, .slice A0_4 l0_4.length c0_4, .slice A0_5 l0_5.length c0_5] 38 (0, 0)) (by refine blk_far ?_ NB396_397.out _; refine blk_far ?_ NB396_397.out _; refine blk_far ?_ NB396_397.out _; refine blk_far ?_ NB396_397.out _; exact BK396.out) hb); replace BK397 := aM (blk_below (g := gb397) (o := .cells #[.int .i64 (-3), .int .i64 0, .int .i64 0, .bool false] 58 (0, 0)) (by refine blk_put (cs := #[.int .i64 (-3), .int .i64 0, .int .i64 0, .bool false]) ?_ 3 _ rfl; refine blk_put (cs := #[.int .i64 (-3), .int .i64 0, .int .i64 0, .bool false]) ?_ 2 _ rfl; refine blk_put (cs := #[.int .i64 (-3), .int .i64 0, .int .i64 0, .bool false]) ?_ 1 _ rfl; refine blk_put (cs := #[.int .i64 0, .int .i64 0, .int .i64 0, .bool false]) ?_ 0 _ rfl; exact BK397.out) hb); replace HB := aM (below_step (by repeat ((with_reducible first | exact HB.out | refine below_set ?_ GE397.out))) hb); (try clear hb); (try clear ho0); obtain ⟨Ao27, co27, eo27⟩ := Kd.R_slice HO400.out; subst eo27; obtain ⟨hcz28_0, hcz28_1, hcz28_2, hcz28_3⟩ := swc4 BK397.out; obtain ⟨hfz28_0, hfz28_1, hfz28_2, hfz28_3⟩ := swf4 BK397.out) | ((with_reducible refine gate_builtin (b := .append) (xs := #[.tmp 31, .tmp 33]) rfl ?_); at_builtin; refine Kd.R_append k80 (w0 := w) w.heap.size rfl (.tmp 31) (.tmp 33) 31 58 (.agg #[(.int .i64 0), (.int .i64 0), (.int .i64 0), (.bool false)]) 32 rfl Tryz.underlying31 info80 rfl (by decide) (by omega) u9 x9_1 (⟨(-3), 0, 0, false⟩ : S80) [.int .i64 (-3), .int .i64 0, .int .i64 0, .bool false] (fun k_ => some k_ ≠ (.slice Ao27 t398.length co27 : Value).ownBlock ∧ k_ ≠ gb397) (fun _ => False) rfl rfl ?aP (fun _ hk => hk.elim) ?aF ?aO ?aB ?aS ?aL ?_; (case aP => exact k80_mkM _ _ _ (⟨(-3), 0, 0, false⟩ : S80)); (case aB => exact HB.out); (case aF => exact (fun k_ hk => ⟨Kd.fresh' (Kd.R_lt HO400.out) k_ hk, Kd.freshB BK397.out k_ hk⟩)); (case aO => exact (by exact Kd.R_mono HO_9.out (fun _ hk => ⟨hk.2, hk.1.2⟩))); (case aS => exact (below_size HB.out)); (case aL => have := LMc21.out; omega); intro v409 w29 ho hb hg hat; rw [← Ny408.out] at ho; replace BK396 := aM (blk_grown BK396.out hg (Kd.R_ne HO_9.out BK396.out (by decide))); replace BK397 := aM (blk_grown BK397.out hg (Kd.R_away HO_9.out (fun _ hk => hk.1.2))); replace HO400 := aM (Kd.R_after (ok := (fun k_ => k_ ≠ gb397)) (by exact Kd.R_mono HO400.out (fun _ hk => ⟨hk.2, hk.1.2⟩)) hg hat); replace HB := aM (hb); have HO410 := aM (ho); clear HO_9; clear ho hb hg hat))
   go_roundg k1
   case measure => have := HK1.out; omega
   case rel => exact ⟨(y408), (wrap64 (x16_1 + 1)), (by rfl), H', ⟨by have := HK1.out; omega⟩, ⟨by exact Kd.R_mono HO410.out (fun _ hk => trivial)⟩, ⟨by exact BK396.out⟩, ⟨by repeat ((with_reducible exact HB.out))⟩⟩
  rw [if_pos c9] at H
  have c9b0 : decide (0 < (t398.length : Int)) = true := decide_eq_true c9
  have c9b1 : decide (0 < t398.length) = true := decide_eq_true (by omega)
  clear c9
  obtain ⟨⟨t401, t402, t403, t404⟩, A10, H⟩ := bA_ H
  obtain ⟨c11, H⟩ := iP H
  have LMc11 := aM c11
  clear c11
  obtain ⟨y405, hy405⟩ : ∃ y_ : List (S80), y_ = (x9_1 ++ [(⟨t401, t402, t403, t404⟩ : S80)]) := ⟨_, rfl⟩
  replace H : (impl_bestRoutes.l0 k1 l1 l2 l3 y405 (l0_0.length : Int) (wrap64 (x16_1 + 1)) l0_0 l0_1 l0_2 l0_3 l0_4 l0_5) = some r := by (rw [hy405]; with_reducible exact H)
  have Ny405 := aM hy405
  clear hy405
  have H' := aM H
  clear H
  go_wp2_with (first | ((with_reducible refine gate_dst (N := 11) rfl ?_); refine box_event rfl (N := 11) rfl (cs := #[.int .i64 0, .int .i64 0, .int .i64 0, .bool false]) (t := 58) (by go_simp; done) ?_; intro gb397 hg w12 hbox hb; replace HO_9 := aM (Kd.R_below (Kd.R_elderB HO_9.out gb397 (Nat.le_of_eq hg.symm)) hb); have BK397 := aM (hbox); have GW397 := bGE HB.out hg; have GE397 := bGE HB.out hg; replace HB := aB HB hb; have NB396_397 := bLT BK396.out hg; have NB397_396 := bGT BK396.out hg; replace BK396 := aK BK396 hb; clear hb hbox hg; have hnb13 := NB397_396.out; have hnc13 := NB396_397.out; obtain ⟨hcz14_0, hcz14_1, hcz14_2, hcz14_3⟩ := swc4 BK397.out; obtain ⟨hfz14_0, hfz14_1, hfz14_2, hfz14_3⟩ := swf4 BK397.out; obtain ⟨hcz15_0, hcz15_1, hcz15_2, hcz15_3, hcz15_4, hcz15_5⟩ := swc6 BK396.out; obtain ⟨hfz15_0, hfz15_1, hfz15_2, hfz15_3, hfz15_4, hfz15_5⟩ := swf6 BK396.out) | (go_at_call 62; (with_reducible refine (impl_candidates.calls k1 _ _ l0_0 _ _ l0_1 _ _ l0_2 _ _ l0_3 _ _ l0_4 _ _ l0_5 x16_1 _ _ l1 _ _ l2 _ _ l3 t398 _ (Kd.C_below HR0_0.out (by repeat ((with_reducible first | exact HB.out | refine below_set ?_ GE397.out)))) HC0_0.out (Kd.C_below HR0_1.out (by repeat ((with_reducible first | exact HB.out | refine below_set ?_ GE397.out)))) HC0_1.out (Kd.C_below HR0_2.out (by repeat ((with_reducible first | exact HB.out | refine below_set ?_ GE397.out)))) HC0_2.out (Kd.C_below HR0_3.out (by repeat ((with_reducible first | exact HB.out | refine below_set ?_ GE397.out)))) HC0_3.out (Kd.C_below HR0_4.out (by repeat ((with_reducible first | exact HB.out | refine below_set ?_ GE397.out)))) HC0_4.out (Kd.C_below HR0_5.out (by repeat ((with_reducible first | exact HB.out | refine below_set ?_ GE397.out)))) HC0_5.out (Kd.C_below HR1.out (by repeat ((with_reducible first | exact HB.out | refine below_set ?_ GE397.out)))) HC1.out (Kd.C_below HR2.out (by repeat ((with_reducible first | exact HB.out | refine below_set ?_ GE397.out)))) HC2.out (Kd.C_below HR3.out (by repeat ((with_reducible first | exact HB.out | refine below_set ?_ GE397.out)))) HC3.out A8.out).mono ?_); rintro e w16 ⟨v399, rfl, ho0, hb⟩; have HO400 := aM (Kd.R_lower (Kd.R_newB (Kd.R_new' ho0 (Kd.R_lt (by exact (Kd.R_mono (Kd.R_far (p := ⟨gb397, 3, none⟩) (Kd.R_far (p := ⟨gb397, 2, none⟩) (Kd.R_far (p := ⟨gb397, 1, none⟩) (Kd.R_far (p := ⟨gb397, 0, none⟩) (Kd.R_mono HO_9.out (fun k_ hk => (⟨hk, hk.2⟩ : _ ∧ k_ ≠ gb397))) (fun _ hk => hk.2) (.int .i64 (-3))) (fun _ hk => hk.2) (.int .i64 0)) (fun _ hk => hk.2) (.int .i64 0)) (fun _ hk => hk.2) (.bool false)) (fun _ h_ => h_.1))))) (g := gb397) (o := .cells #[.int .i64 (-3), .int .i64 0, .int .i64 0, .bool false] 58 (0, 0)) (by refine blk_put (cs := #[.int .i64 (-3), .int .i64 0, .int .i64 0, .bool false]) ?_ 3 _ rfl; refine blk_put (cs := #[.int .i64 (-3), .int .i64 0, .int .i64 0, .bool false]) ?_ 2 _ rfl; refine blk_put (cs := #[.int .i64 (-3), .int .i64 0, .int .i64 0, .bool false]) ?_ 1 _ rfl; refine blk_put (cs := #[.int .i64 0, .int .i64 0, .int .i64 0, .bool false]) ?_ 0 _ rfl; exact BK397.out)) (below_size (by repeat ((with_reducible first | exact HB.out | refine below_set ?_ GE397.out))))); replace HO_9 := aM (Kd.R_elder' (by exact (Kd.R_mono (Kd.R_far (p := ⟨gb397, 3, none⟩) (Kd.R_far (p := ⟨gb397, 2, none⟩) (Kd.R_far (p := ⟨gb397, 1, none⟩) (Kd.R_far (p := ⟨gb397, 0, none⟩) (Kd.R_mono HO_9.out (fun k_ hk => (⟨hk, hk.2⟩ : _ ∧ k_ ≠ gb397))) (fun _ hk => hk.2) (.int .i64 (-3))) (fun _ hk => hk.2) (.int .i64 0)) (fun _ hk => hk.2) (.int .i64 0)) (fun _ hk => hk.2) (.bool false)) (fun _ h_ => h_.1))) (Kd.R_base ho0) hb); replace BK396 := aM (blk_below (g := gb396) (o := .cells #[.slice A0_0 l0_0.length c0_0, .slice A0_1 l0_1.length c0_1, .slice A0_2 l0_2.length c0_2, .slice A0_3 l0_3.length c0_3, .slice A0_4 l0_4.length c0_4, .slice A0_5 l0_5.length c0_5] 38 (0, 0)) (by refine blk_far ?_ NB396_397.out _; refine blk_far ?_ NB396_397.out _; refine blk_far ?_ NB396_397.out _; refine blk_far ?_ NB396_397.out _; exact BK396.out) hb); replace BK397 := aM (blk_below (g := gb397) (o := .cells #[.int .i64 (-3), .int .i64 0, .int .i64 0, .bool false] 58 (0, 0)) (by refine blk_put (cs := #[.int .i64 (-3), .int .i64 0, .int .i64 0, .bool false]) ?_ 3 _ rfl; refine blk_put (cs := #[.int .i64 (-3), .int .i64 0, .int .i64 0, .bool false]) ?_ 2 _ rfl; refine blk_put (cs := #[.int .i64 (-3), .int .i64 0, .int .i64 0, .bool false]) ?_ 1 _ rfl; refine blk_put (cs := #[.int .i64 0, .int .i64 0, .int .i64 0, .bool false]) ?_ 0 _ rfl; exact BK397.out) hb); replace HB := aM (below_step (by repeat ((with_reducible first | exact HB.out | refine below_set ?_ GE397.out))) hb); (try clear hb); (try clear ho0); obtain ⟨Ao17, co17, eo17⟩ := Kd.R_slice HO400.out; subst eo17) | (go_at_call 63; (with_reducible refine (impl_bestRoute.calls k1 _ _ t398 t401 t402 t403 t404 _ ((Kd.R_reads' HO400.out).2.2) ((Kd.R_reads' HO400.out).2.1) A10.out).mono ?_); rintro e w18 ⟨rfl, hb⟩; replace HO_9 := aM (Kd.R_below HO_9.out hb); replace HO400 := aM (Kd.R_below HO400.out hb); replace BK396 := aK BK396 hb; replace BK397 := aK BK397 hb; replace HB := aB HB hb; (try clear hb); obtain ⟨hcz19_0, hcz19_1, hcz19_2, hcz19_3⟩ := swc4 BK397.out; obtain ⟨hfz19_0, hfz19_1, hfz19_2, hfz19_3⟩ := swf4 BK397.out) | ((with_reducible refine gate_builtin (b := .append) (xs := #[.tmp 31, .tmp 33]) rfl ?_); at_builtin; refine Kd.R_append k80 (w0 := w) w.heap.size rfl (.tmp 31) (.tmp 33) 31 58 (.agg #[(.int .i64 0), (.int .i64 0), (.int .i64 0), (.bool false)]) 32 rfl Tryz.underlying31 info80 rfl (by decide) (by omega) u9 x9_1 (⟨t401, t402, t403, t404⟩ : S80) [.int .i64 t401, .int .i64 t402, .int .i64 t403, .bool t404] (fun k_ => some k_ ≠ (.slice Ao17 t398.length co17 : Value).ownBlock ∧ k_ ≠ gb397) (fun _ => False) rfl (by (go_simp; done)) ?aP (fun _ hk => hk.elim) ?aF ?aO ?aB ?aS ?aL ?_; (case aP => exact k80_mkM _ _ _ (⟨t401, t402, t403, t404⟩ : S80)); (case aB => exact (by repeat ((with_reducible first | exact HB.out | refine below_set ?_ GE397.out)))); (case aF => exact (fun k_ hk => ⟨Kd.fresh' (Kd.R_lt (by exact (Kd.R_mono (Kd.R_far (p := ⟨gb397, 3, none⟩) (Kd.R_far (p := ⟨gb397, 2, none⟩) (Kd.R_far (p := ⟨gb397, 1, none⟩) (Kd.R_far (p := ⟨gb397, 0, none⟩) (Kd.R_mono HO400.out (fun k_ hk => (⟨hk, hk.2⟩ : _ ∧ k_ ≠ gb397))) (fun _ hk => hk.2) (.int .i64 t401)) (fun _ hk => hk.2) (.int .i64 t402)) (fun _ hk => hk.2) (.int .i64 t403)) (fun _ hk => hk.2) (.bool t404)) (fun _ h_ => h_.1)))) k_ hk, Kd.freshB (g := gb397) (o := .cells #[.int .i64 t401, .int .i64 t402, .int .i64 t403, .bool t404] 58 (0, 0)) (by refine blk_put (cs := #[.int .i64 t401, .int .i64 t402, .int .i64 t403, .bool false]) ?_ 3 _ rfl; refine blk_put (cs := #[.int .i64 t401, .int .i64 t402, .int .i64 0, .bool false]) ?_ 2 _ rfl; refine blk_put (cs := #[.int .i64 t401, .int .i64 0, .int .i64 0, .bool false]) ?_ 1 _ rfl; refine blk_put (cs := #[.int .i64 (-3), .int .i64 0, .int .i64 0, .bool false]) ?_ 0 _ rfl; exact BK397.out) k_ hk⟩)); (case aO => exact (by exact Kd.R_mono (Kd.R_far (p := ⟨gb397, 3, none⟩) (Kd.R_far (p := ⟨gb397, 2, none⟩) (Kd.R_far (p := ⟨gb397, 1, none⟩) (Kd.R_far (p := ⟨gb397, 0, none⟩) (Kd.R_mono HO_9.out (fun k_ hk => (⟨hk, hk.1.2⟩ : _ ∧ k_ ≠ gb397))) (fun _ hk => hk.2) (.int .i64 t401)) (fun _ hk => hk.2) (.int .i64 t402)) (fun _ hk => hk.2) (.int .i64 t403)) (fun _ hk => hk.2) (.bool t404)) (fun _ hk => ⟨hk.1.2, hk.1.1.2⟩))); (case aS => exact (below_size (by repeat ((with_reducible first | exact HB.out | refine below_set ?_ GE397.out))))); (case aL => have := LMc11.out; omega); intro v406 w20 ho hb hg hat; rw [← Ny405.out] at ho; replace BK396 := aM (blk_grown (g := gb396) (o := .cells #[.slice A0_0 l0_0.length c0_0, .slice A0_1 l0_1.length c0_1, .slice A0_2 l0_2.length c0_2, .slice A0_3 l0_3.length c0_3, .slice A0_4 l0_4.length c0_4, .slice A0_5 l0_5.length c0_5] 38 (0, 0)) (by refine blk_far ?_ NB396_397.out _; refine blk_far ?_ NB396_397.out _; refine blk_far ?_ NB396_397.out _; refine blk_far ?_ NB396_397.out _; exact BK396.out) hg (Kd.R_ne HO_9.out BK396.out (by decide))); replace BK397 := aM (blk_grown (g := gb397) (o := .cells #[.int .i64 t401, .int .i64 t402, .int .i64 t403, .bool t404] 58 (0, 0)) (by refine blk_put (cs := #[.int .i64 t401, .int .i64 t402, .int .i64 t403, .bool false]) ?_ 3 _ rfl; refine blk_put (cs := #[.int .i64 t401, .int .i64 t402, .int .i64 0, .bool false]) ?_ 2 _ rfl; refine blk_put (cs := #[.int .i64 t401, .int .i64 0, .int .i64 0, .bool false]) ?_ 1 _ rfl; refine blk_put (cs := #[.int .i64 (-3), .int .i64 0, .int .i64 0, .bool false]) ?_ 0 _ rfl; exact BK397.out) hg (Kd.R_away HO_9.out (fun _ hk => hk.1.2))); replace HO400 := aM (Kd.R_after (ok := (fun k_ => k_ ≠ gb397)) (by exact Kd.R_mono (Kd.R_far (p := ⟨gb397, 3, none⟩) (Kd.R_far (p := ⟨gb397, 2, none⟩) (Kd.R_far (p := ⟨gb397, 1, none⟩) (Kd.R_far (p := ⟨gb397, 0, none⟩) (Kd.R_mono HO400.out (fun k_ hk => (⟨hk, hk.2⟩ : _ ∧ k_ ≠ gb397))) (fun _ hk => hk.2) (.int .i64 t401)) (fun _ hk => hk.2) (.int .i64 t402)) (fun _ hk => hk.2) (.int .i64 t403)) (fun _ hk => hk.2) (.bool t404)) (fun _ hk => ⟨hk.1.2, hk.1.1.2⟩)) hg hat); replace HB := aM (hb); have HO407 := aM (ho); clear HO_9; clear ho hb hg hat))
  go_roundg k1
  case measure => have := HK1.out; omega
  case rel => exact ⟨(y405), (wrap64 (x16_1 + 1)), (by rfl), H', ⟨by have := HK1.out; omega⟩, ⟨by exact Kd.R_mono HO407.out (fun _ hk => trivial)⟩, ⟨by exact BK396.out⟩, ⟨by repeat ((with_reducible exact HB.out))⟩⟩
end Go.Proofs.YtgibacfgjmdjdaaGreat.PFnExactIsStable
end
section
namespace Go.Proofs.YtgibacfgjmdjdaaGreat.PFnExactIsStable
open Go.RowKit Go.Proofs.YtgibacfgjmdjdaaGreatW.PrintWords Go.Proofs.YtgibacfgjmdjdaaGreatW.PrintLast Go.Proofs.YtgibacfgjmdjdaaGreatW.PrintMore
attribute [local go_sem] max2_int min2_int max_two min_two max_three min_three max_four min_four   -- for this text's walks alone
set_option linter.unusedVariables false
set_option maxHeartbeats 8000000
set_option maxRecDepth 100000
set_option linter.unusedSimpArgs false
def impl_isStable.f (k : Nat) (l0_0 : List ByteArray) (l0_1 : List (S92)) (l0_2 : List Int) (l0_3 : List Int) (l0_4 : List (S95)) (l0_5 : List (S97)) (l1 : List Int) (l2 : List Bool) (l3 : List (S80)) : Option (Bool) := (impl_bestRoutes.f k l0_0 l0_1 l0_2 l0_3 l0_4 l0_5 l1 l2 l3).bind fun t412 => ((impl_Route.f k t412 l3).bind fun t415 => (some t415))
theorem impl_isStable.calls (k A0_0 c0_0 l0_0 A0_1 c0_1 l0_1 A0_2 c0_2 l0_2 A0_3 c0_3 l0_3 A0_4 c0_4 l0_4 A0_5 c0_5 l0_5 A1 c1 l1 A2 c2 l2 A3 c3 l3 r w) (hr0_0 : Kd.C Kd.string w A0_0 l0_0.length l0_0) (hc0_0 : l0_0.length ≤ c0_0) (hr0_1 : Kd.C k92 w A0_1 l0_1.length l0_1) (hc0_1 : l0_1.length ≤ c0_1) (hr0_2 : Kd.C (Kd.int .i64) w A0_2 l0_2.length l0_2) (hc0_2 : l0_2.length ≤ c0_2) (hr0_3 : Kd.C (Kd.int .i64) w A0_3 l0_3.length l0_3) (hc0_3 : l0_3.length ≤ c0_3) (hr0_4 : Kd.C k95 w A0_4 l0_4.length l0_4) (hc0_4 : l0_4.length ≤ c0_4) (hr0_5 : Kd.C k97 w A0_5 l0_5.length l0_5) (hc0_5 : l0_5.length ≤ c0_5) (hr1 : Kd.C (Kd.int .i64) w A1 l1.length l1) (hc1 : l1.length ≤ c1) (hr2 : Kd.C Kd.bool w A2 l2.length l2) (hc2 : l2.length ≤ c2) (hr3 : Kd.C k80 w A3 l3.length l3) (hc3 : l3.length ≤ c3) (h : impl_isStable.f k l0_0 l0_1 l0_2 l0_3 l0_4 l0_5 l1 l2 l3 = some r) :
  Calls Tryz.prog 39 #[.agg #[.slice A0_0 l0_0.length c0_0, .slice A0_1 l0_1.length c0_1, .slice A0_2 l0_2.length c0_2, .slice A0_3 l0_3.length c0_3, .slice A0_4 l0_4.length c0_4, .slice A0_5 l0_5.length c0_5], .slice A1 l1.length c1, .slice A2 l2.length c2, .slice A3 l3.length c3] w fun e w' => e = .returned (.bool r) ∧ Below w.heap.size w w' := by
 have hu38 := Tryz.underlying38
 obtain ⟨HR0_0, HC0_0, HR0_1, HC0_1, HR0_2, HC0_2, HR0_3, HC0_3, HR0_4, HC0_4, HR0_5, HC0_5⟩ := as12 hr0_0 hc0_0 hr0_1 hc0_1 hr0_2 hc0_2 hr0_3 hc0_3 hr0_4 hc0_4 hr0_5 hc0_5
 clear hr0_0 hc0_0 hr0_1 hc0_1 hr0_2 hc0_2 hr0_3 hc0_3 hr0_4 hc0_4 hr0_5 hc0_5
 have HR1 := aM hr1
 have HC1 := aM hc1
 clear hr1 hc1
 have HR2 := aM hr2
 have HC2 := aM hc2
 clear hr2 hc2
 have HR3 := aM hr3
 have HC3 := aM hc3
 clear hr3 hc3
 have HB := aM (Below.refl w.heap.size w)
 have H : ((impl_bestRoutes.f k l0_0 l0_1 l0_2 l0_3 l0_4 l0_5 l1 l2 l3).bind fun t412 => ((impl_Route.f k t412 l3).bind fun t415 => (some t415))) = some r := h
 clear h
 obtain ⟨t412, A5, H⟩ := bA_ H
 obtain ⟨t415, A6, H⟩ := bA_ H
 obtain rfl := Option.some.inj H
 go_enter Tryz.func39, Tryz.ntmps39
 go_wp2_with (first | ((with_reducible refine gate_dst (N := 4) rfl ?_); refine bxE HB ?_; intro gb411 hg w7 hb BK411 GW411 GE411 HB; clear hb hg; obtain ⟨hcz8_0, hcz8_1, hcz8_2, hcz8_3, hcz8_4, hcz8_5⟩ := swc6 BK411.out; obtain ⟨hfz8_0, hfz8_1, hfz8_2, hfz8_3, hfz8_4, hfz8_5⟩ := swf6 BK411.out) | (go_at_call 37; (with_reducible refine (impl_bestRoutes.calls k _ _ l0_0 _ _ l0_1 _ _ l0_2 _ _ l0_3 _ _ l0_4 _ _ l0_5 _ _ l1 _ _ l2 _ _ l3 t412 _ (Kd.C_below HR0_0.out HB.out) HC0_0.out (Kd.C_below HR0_1.out HB.out) HC0_1.out (Kd.C_below HR0_2.out HB.out) HC0_2.out (Kd.C_below HR0_3.out HB.out) HC0_3.out (Kd.C_below HR0_4.out HB.out) HC0_4.out (Kd.C_below HR0_5.out HB.out) HC0_5.out (Kd.C_below HR1.out HB.out) HC1.out (Kd.C_below HR2.out HB.out) HC2.out (Kd.C_below HR3.out HB.out) HC3.out A5.out).mono ?_); rintro e w9 ⟨v413, rfl, ho0, hb⟩; have HO414 := aM (Kd.R_lower ho0 (below_size HB.out)); replace BK411 := aK BK411 hb; replace HB := aB HB hb; (try clear hb); (try clear ho0); obtain ⟨Ao10, co10, eo10⟩ := Kd.R_slice HO414.out; subst eo10) | (go_at_call 38; (with_reducible refine (impl_Route.calls k _ _ t412 _ _ l3 t415 _ ((Kd.R_reads' HO414.out).2.2) ((Kd.R_reads' HO414.out).2.1) (Kd.C_below HR3.out HB.out) HC3.out A6.out).mono ?_); rintro e w' ⟨rfl, ⟨nd, rfl⟩⟩))
 go_ret
 exact ⟨by rfl, by repeat ((with_reducible first | exact HB.out | apply pw_below_drewN))⟩
section
variable {P : World → Prop} {V V2 : World} {ok S : Nat → Prop}
theorem foot_below (h : Foot P V ok) (hb : Below V.heap.size V V2) : Foot P V2 ok := h.step (fun k _ hlt => hb.block k hlt)
theorem foot_R {α : Type} {d : Kd α} {e base : Nat} {v : Value} {xs : List α} (h : d.R e V base ok v xs) : Foot (fun V => d.R e V base ok v xs) V ok := fun W' hW => Kd.R_step h hW
theorem foot_blk {g : Nat} {o : Obj} (h : V.heap[g]? = some o) (hok : ok g) : Foot (fun V => V.heap[g]? = some o) V ok := fun W' hW => (hW g hok (blk_lt h)).trans h
theorem foot_and {Q : World → Prop} (h : Foot P V ok) (k : Foot Q V ok) : Foot (fun V => P V ∧ Q V) V ok := fun W' hW => ⟨h W' hW, k W' hW⟩
theorem drawn_below (h : Drawn0 V V2) : Below V.heap.size V V2 := by
 obtain ⟨n, rfl⟩ := h.out
 exact pw_below_drewN (Below.refl _ _) n
theorem foot_C {α : Type} {d : Kd α} {A : Option Addr} {n : Nat} {xs : List α} (hd : Kd.Heap d) (h : d.C V A n xs) : Foot (fun V => d.C V A n xs) V (fun k => k < V.heap.size) := Kd.C_F hd h
end
theorem heap107 : Kd.Heap k107 := Kd.heap_iso _ (Kd.heap_pair (Kd.heap_int .i64) (Kd.heap_pair (Kd.heap_int .i64) (Kd.heap_int .i64)))
theorem heap109 : Kd.Heap k109 := Kd.heap_iso _ (Kd.heap_pair (Kd.heap_int .i64) (Kd.heap_pair (Kd.heap_int .i64) (Kd.heap_pair (Kd.heap_int .i64) (Kd.heap_pair (Kd.heap_int .i64) (Kd.heap_int .i64)))))
theorem heap111 : Kd.Heap k111 := Kd.heap_iso _ (Kd.heap_pair (Kd.heap_int .i64) (Kd.heap_pair (Kd.heap_int .i64) (Kd.heap_pair (Kd.heap_int .i64) (Kd.heap_int .i64))))
def NP (lo : Nat) (ok : Nat → Prop) (A0 : Option Addr) (c0 : Nat) (A1 : Option Addr) (c1 : Nat) (A2 : Option Addr) (c2 : Nat) (A3 : Option Addr) (c3 : Nat) (A4 : Option Addr) (c4 : Nat) (A5 : Option Addr) (c5 : Nat) (q0 : List ByteArray) (q1 : List S92) (q2 : List Int) (q3 : List Int) (q4 : List S95) (q5 : List S97) (V : World) : Prop := Kd.R Kd.string 9 V lo ok (.slice A0 q0.length c0) q0 ∧ Kd.R k92 83 V lo ok (.slice A1 q1.length c1) q1 ∧ Kd.R (Kd.int .i64) 3 V lo ok (.slice A2 q2.length c2) q2 ∧ Kd.R (Kd.int .i64) 3 V lo ok (.slice A3 q3.length c3) q3 ∧ Kd.R k95 87 V lo ok (.slice A4 q4.length c4) q4 ∧ Kd.R k97 91 V lo ok (.slice A5 q5.length c5) q5
section
variable {V W : World} {lo : Nat} {ok ok' : Nat → Prop} {A0 : Option Addr} {c0 : Nat} {A1 : Option Addr} {c1 : Nat} {A2 : Option Addr} {c2 : Nat} {A3 : Option Addr} {c3 : Nat} {A4 : Option Addr} {c4 : Nat} {A5 : Option Addr} {c5 : Nat} {q0 : List ByteArray} {q1 : List S92} {q2 : List Int} {q3 : List Int} {q4 : List S95} {q5 : List S97} {kf : Nat}
theorem NP.foot (h : NP lo ok A0 c0 A1 c1 A2 c2 A3 c3 A4 c4 A5 c5 q0 q1 q2 q3 q4 q5 V) : Foot (NP lo ok A0 c0 A1 c1 A2 c2 A3 c3 A4 c4 A5 c5 q0 q1 q2 q3 q4 q5) V ok := fun W' hW => ⟨Kd.R_step h.1 hW, Kd.R_step h.2.1 hW, Kd.R_step h.2.2.1 hW, Kd.R_step h.2.2.2.1 hW, Kd.R_step h.2.2.2.2.1 hW, Kd.R_step h.2.2.2.2.2 hW⟩
set_option maxHeartbeats 1000000 in
theorem toNet_any {w : World} (b0 : Nat) (hb0 : b0 ≤ w.heap.size) (a0 : Option Addr) (d0 : Nat) (l0 : List ByteArray) (a1 : Option Addr) (d1 : Nat) (l1 : List S107) (a2 : Option Addr) (d2 : Nat) (l2 : List Int) (a3 : Option Addr) (d3 : Nat) (l3 : List Int) (a4 : Option Addr) (d4 : Nat) (l4 : List S109) (a5 : Option Addr) (d5 : Nat) (l5 : List S111) (q0 : List ByteArray) (q1 : List S92) (q2 : List Int) (q3 : List Int) (q4 : List S95) (q5 : List S97) (hr0 : Kd.C Kd.string w a0 l0.length l0) (hc0 : l0.length ≤ d0) (hr1 : Kd.C k107 w a1 l1.length l1) (hc1 : l1.length ≤ d1) (hr2 : Kd.C (Kd.int .i64) w a2 l2.length l2) (hc2 : l2.length ≤ d2) (hr3 : Kd.C (Kd.int .i64) w a3 l3.length l3) (hc3 : l3.length ≤ d3) (hr4 : Kd.C k109 w a4 l4.length l4) (hc4 : l4.length ≤ d4) (hr5 : Kd.C k111 w a5 l5.length l5) (hc5 : l5.length ≤ d5) (h : laws_toNet.f kf l0 l1 l2 l3 l4 l5 = some (q0, q1, q2, q3, q4, q5)) :
  Calls Tryz.prog 6 #[.agg #[.slice a0 l0.length d0, .slice a1 l1.length d1, .slice a2 l2.length d2, .slice a3 l3.length d3, .slice a4 l4.length d4, .slice a5 l5.length d5]] w fun e w' => ∃ (A0 : Option Addr) (c0 : Nat) (A1 : Option Addr) (c1 : Nat) (A2 : Option Addr) (c2 : Nat) (A3 : Option Addr) (c3 : Nat) (A4 : Option Addr) (c4 : Nat) (A5 : Option Addr) (c5 : Nat), e = .returned (.agg #[.slice A0 q0.length c0, .slice A1 q1.length c1, .slice A2 q2.length c2, .slice A3 q3.length c3, .slice A4 q4.length c4, .slice A5 q5.length c5]) ∧ NP b0 (fun k => w.heap.size ≤ k ∧ k < w'.heap.size) A0 c0 A1 c1 A2 c2 A3 c3 A4 c4 A5 c5 q0 q1 q2 q3 q4 q5 w' ∧ (∀ k, some k = (.slice A2 q2.length c2 : Value).ownBlock → ¬ some k = (.slice A3 q3.length c3 : Value).ownBlock) ∧ Below w.heap.size w w' := by
 refine (laws_toNet.calls kf a0 d0 l0 a1 d1 l1 a2 d2 l2 a3 d3 l3 a4 d4 l4 a5 d5 l5 q0 q1 q2 q3 q4 q5 w hr0 hc0 hr1 hc1 hr2 hc2 hr3 hc3 hr4 hc4 hr5 hc5 h).mono ?_
 rintro e w' ⟨v0, v1, v2, v3, v4, v5, rfl, h0, h1, h2, h3, h4, h5, hb⟩
 obtain ⟨A0, c0, e0⟩ := Kd.R_slice h0
 subst e0
 obtain ⟨A1, c1, e1⟩ := Kd.R_slice h1
 subst e1
 obtain ⟨A2, c2, e2⟩ := Kd.R_slice h2
 subst e2
 obtain ⟨A3, c3, e3⟩ := Kd.R_slice h3
 subst e3
 obtain ⟨A4, c4, e4⟩ := Kd.R_slice h4
 subst e4
 obtain ⟨A5, c5, e5⟩ := Kd.R_slice h5
 subst e5
 refine ⟨A0, c0, A1, c1, A2, c2, A3, c3, A4, c4, A5, c5, rfl, ⟨Kd.R_mono (Kd.R_lower (Kd.R_bound h0) hb0) (fun k hk => ⟨hk.2.1, hk.2.2.1⟩), Kd.R_mono (Kd.R_lower (Kd.R_bound h1) hb0) (fun k hk => ⟨hk.2.1, hk.2.2.1⟩), Kd.R_mono (Kd.R_lower (Kd.R_bound h2) hb0) (fun k hk => ⟨hk.2.1, hk.2.2.1⟩), Kd.R_mono (Kd.R_lower (Kd.R_bound h3) hb0) (fun k hk => ⟨hk.2.1, hk.2.2.1⟩), Kd.R_mono (Kd.R_lower (Kd.R_bound h4) hb0) (fun k hk => ⟨hk.2.1, hk.2.2.1⟩), Kd.R_mono (Kd.R_lower (Kd.R_bound h5) hb0) (fun k hk => ⟨hk.2.1, hk.2.2.1⟩)⟩, (fun k e => h2.1 k e.symm), hb⟩
theorem eqNet_any {lo2 : Nat} {ok2 : Nat → Prop} {B0 : Option Addr} {e0 : Nat} {B1 : Option Addr} {e1 : Nat} {B2 : Option Addr} {e2 : Nat} {B3 : Option Addr} {e3 : Nat} {B4 : Option Addr} {e4 : Nat} {B5 : Option Addr} {e5 : Nat} {p0 : List ByteArray} {p1 : List S92} {p2 : List Int} {p3 : List Int} {p4 : List S95} {p5 : List S97} {r : Bool} (h1 : NP lo ok A0 c0 A1 c1 A2 c2 A3 c3 A4 c4 A5 c5 q0 q1 q2 q3 q4 q5 V) (h2 : NP lo2 ok2 B0 e0 B1 e1 B2 e2 B3 e3 B4 e4 B5 e5 p0 p1 p2 p3 p4 p5 V) (h : laws_eqNet.f kf q0 q1 q2 q3 q4 q5 p0 p1 p2 p3 p4 p5 = some r) :
  Calls Tryz.prog 11 #[.agg #[.slice A0 q0.length c0, .slice A1 q1.length c1, .slice A2 q2.length c2, .slice A3 q3.length c3, .slice A4 q4.length c4, .slice A5 q5.length c5], .agg #[.slice B0 p0.length e0, .slice B1 p1.length e1, .slice B2 p2.length e2, .slice B3 p3.length e3, .slice B4 p4.length e4, .slice B5 p5.length e5]] V fun e w' => e = .returned (.bool r) ∧ Below V.heap.size V w' :=
 laws_eqNet.calls kf A0 c0 q0 A1 c1 q1 A2 c2 q2 A3 c3 q3 A4 c4 q4 A5 c5 q5 B0 e0 p0 B1 e1 p1 B2 e2 p2 B3 e3 p3 B4 e4 p4 B5 e5 p5 r V (Kd.R_reads' h1.1).2.2 (Kd.R_reads' h1.1).2.1 (Kd.R_reads' h1.2.1).2.2 (Kd.R_reads' h1.2.1).2.1 (Kd.R_reads' h1.2.2.1).2.2 (Kd.R_reads' h1.2.2.1).2.1 (Kd.R_reads' h1.2.2.2.1).2.2 (Kd.R_reads' h1.2.2.2.1).2.1 (Kd.R_reads' h1.2.2.2.2.1).2.2 (Kd.R_reads' h1.2.2.2.2.1).2.1 (Kd.R_reads' h1.2.2.2.2.2).2.2 (Kd.R_reads' h1.2.2.2.2.2).2.1 (Kd.R_reads' h2.1).2.2 (Kd.R_reads' h2.1).2.1 (Kd.R_reads' h2.2.1).2.2 (Kd.R_reads' h2.2.1).2.1 (Kd.R_reads' h2.2.2.1).2.2 (Kd.R_reads' h2.2.2.1).2.1 (Kd.R_reads' h2.2.2.2.1).2.2 (Kd.R_reads' h2.2.2.2.1).2.1 (Kd.R_reads' h2.2.2.2.2.1).2.2 (Kd.R_reads' h2.2.2.2.2.1).2.1 (Kd.R_reads' h2.2.2.2.2.2).2.2 (Kd.R_reads' h2.2.2.2.2.2).2.1 h
end
end Go.Proofs.YtgibacfgjmdjdaaGreat.PFnExactIsStable
end
end
