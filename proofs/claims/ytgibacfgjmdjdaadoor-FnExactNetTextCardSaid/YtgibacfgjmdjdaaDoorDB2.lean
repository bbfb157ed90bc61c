/- FnExactNetText: for every input the law returns true. The texts that this program's session printed and proved for it, those that the proof uses, laid together. Conditions: the form's own reach alone. -/
import Derived.Test.YtgibacfgjmdjdaaDoorDB1
section
namespace Go.Proofs.YtgibacfgjmdjdaaDoor.PFnExactIsStable
open Go.RowKit Go.Proofs.YtgibacfgjmdjdaaDoorW.PrintWords Go.Proofs.YtgibacfgjmdjdaaDoorW.PrintLast Go.Proofs.YtgibacfgjmdjdaaDoorW.PrintMore
attribute [local go_sem] max2_int min2_int max_two min_two max_three min_three max_four min_four   -- for this text's walks alone
set_option linter.unusedVariables false
set_option maxHeartbeats 8000000
set_option maxRecDepth 100000
set_option linter.unusedSimpArgs false
def spec_l06Link.l0 : Nat → List (S92) → Int → Int → Int → Option (Int)
 | 0, _, _, _, _ => none
 | k + 1, x0, x1, x2, x7 => if x7 < (x0.length : Int) then (if 0 ≤ x7 then (if ((rd_T92 x0 x7).f0) = x1 then (if ((rd_T92 x0 x7).f1) = x2 then (some x7) else (if ((rd_T92 x0 x7).f0) = x2 then (if ((rd_T92 x0 x7).f1) = x1 then (some x7) else (spec_l06Link.l0 k x0 x1 x2 (wrap64 (x7 + 1)))) else (spec_l06Link.l0 k x0 x1 x2 (wrap64 (x7 + 1))))) else (if ((rd_T92 x0 x7).f0) = x2 then (if ((rd_T92 x0 x7).f1) = x1 then (some x7) else (spec_l06Link.l0 k x0 x1 x2 (wrap64 (x7 + 1)))) else (spec_l06Link.l0 k x0 x1 x2 (wrap64 (x7 + 1))))) else (none)) else (some (-1))
def spec_l06Link.f (k : Nat) (l0 : List (S92)) (a1 : Int) (a2 : Int) : Option (Int) := spec_l06Link.l0 k l0 a1 a2 0
theorem spec_l06Link.calls (k : Nat) (A0 : Option Addr) (c0 : Nat) (l0 : List (S92)) (a1 : Int) (a2 : Int) (r : Int) (w : World) (hr0 : Kd.C k92 w A0 l0.length l0) (hc0 : l0.length ≤ c0) (h : spec_l06Link.f k l0 a1 a2 = some r) :
  Calls Tryd.prog 32 #[.slice A0 l0.length c0, .int .i64 a1, .int .i64 a2] w fun e w' => e = .returned (.int .i64 r) ∧ Drawn0 w w' := by
 have HR0 := aM hr0
 have HC0 := aM hc0
 clear hr0 hc0
 have H : (spec_l06Link.l0 k l0 a1 a2 0) = some r := h
 clear h
 have H' := aM H
 clear H
 go_enter Tryd.func32, Tryd.ntmps32
 go_wp2
 go_loopg [7] k (fun kq v7 w' => ∃ (x7_1 : Int), v7 = .int .i64 x7_1 ∧ Aside0 (spec_l06Link.l0 kq l0 a1 a2 x7_1 = some r) ∧ Aside0 (kq ≤ k) ∧ Drawn0 w w')
 case atStart => exact ⟨(0), (by rfl), H', ⟨Nat.le_refl _⟩, by repeat (exact Drawn0.refl _)⟩
 clear H'
 obtain ⟨x7_1, rfl, HA, HK1, ⟨m1, rfl⟩⟩ := hrel
 cases gk with
 | zero => exact absurd HA.out (by simp [spec_l06Link.l0])
 | succ k1 =>
  have H := HA.out
  clear HA
  simp only [spec_l06Link.l0] at H
  by_cases c4 : x7_1 < (l0.length : Int)
  rotate_left
  ·rw [if_neg c4] at H
   have c4b0 : decide (x7_1 < (l0.length : Int)) = false := decide_eq_false c4
   clear c4
   obtain rfl := Option.some.inj H
   go_wp2
   go_ret
   exact ⟨by rfl, by repeat (first | exact Drawn0.refl _ | apply Drawn0.step)⟩
  rw [if_pos c4] at H
  have c4b0 : decide (x7_1 < (l0.length : Int)) = true := decide_eq_true c4
  clear c4
  by_cases c5 : 0 ≤ x7_1
  rotate_left
  ·rw [if_neg c5] at H
   exact absurd H (by simp)
  rw [if_pos c5] at H
  have c5b0 : decide (0 ≤ x7_1) = true := decide_eq_true c5
  clear c5
  by_cases c6 : ((rd_T92 l0 x7_1).f0) = a1
  rotate_left
  ·rw [if_neg c6] at H
   have c6b0 : (((rd_T92 l0 x7_1).f0) == a1) = false := beq_eq_false_iff_ne.mpr c6
   have c6b1 : (((rd_T92 l0 x7_1).f0) != a1) = true := bne_iff_ne.mpr c6
   by_cases c10 : ((rd_T92 l0 x7_1).f0) = a2
   rotate_left
   ·rw [if_neg c10] at H
    have c10b0 : (((rd_T92 l0 x7_1).f0) == a2) = false := beq_eq_false_iff_ne.mpr c10
    have c10b1 : (((rd_T92 l0 x7_1).f0) != a2) = true := bne_iff_ne.mpr c10
    have H' := aM H
    clear H
    have p212 : 0 ≤ (x7_1 : Int) := oD ‹_›
    have q212 : x7_1 < (l0.length : Int) := oD ‹_›
    obtain ⟨ad212, e212, hx212_0, hx212_1, hx212_2⟩ := at_T92 HR0.out x7_1 p212 q212
    cases e212
    replace p212 := eq_true p212
    replace q212 := eq_true q212
    have p216 : 0 ≤ (x7_1 : Int) := oD ‹_›
    have q216 : x7_1 < (l0.length : Int) := oD ‹_›
    obtain ⟨ad216, e216, hx216_0, hx216_1, hx216_2⟩ := at_T92 HR0.out x7_1 p216 q216
    obtain rfl : ad212 = ad216 := (by injection e216)
    replace p216 := eq_true p216
    replace q216 := eq_true q216
    go_wp2
    go_roundg k1
    case measure => have := HK1.out; omega
    case rel => exact ⟨(wrap64 (x7_1 + 1)), (by rfl), H', ⟨by have := HK1.out; omega⟩, by repeat (first | exact Drawn0.refl _ | apply Drawn0.step)⟩
   rw [if_pos c10] at H
   have c10b0 : (((rd_T92 l0 x7_1).f0) == a2) = true := beq_iff_eq.mpr c10
   have c10b1 : (((rd_T92 l0 x7_1).f0) != a2) = false := bne_eq_false_iff_eq.mpr c10
   clear c10
   by_cases c11 : ((rd_T92 l0 x7_1).f1) = a1
   ·rw [if_pos c11] at H
    have c11b0 : (((rd_T92 l0 x7_1).f1) == a1) = true := beq_iff_eq.mpr c11
    have c11b1 : (((rd_T92 l0 x7_1).f1) != a1) = false := bne_eq_false_iff_eq.mpr c11
    clear c11
    obtain rfl := Option.some.inj H
    have p212 : 0 ≤ (x7_1 : Int) := oD ‹_›
    have q212 : x7_1 < (l0.length : Int) := oD ‹_›
    obtain ⟨ad212, e212, hx212_0, hx212_1, hx212_2⟩ := at_T92 HR0.out x7_1 p212 q212
    cases e212
    replace p212 := eq_true p212
    replace q212 := eq_true q212
    have p216 : 0 ≤ (x7_1 : Int) := oD ‹_›
    have q216 : x7_1 < (l0.length : Int) := oD ‹_›
    obtain ⟨ad216, e216, hx216_0, hx216_1, hx216_2⟩ := at_T92 HR0.out x7_1 p216 q216
    obtain rfl : ad212 = ad216 := (by injection e216)
    replace p216 := eq_true p216
    replace q216 := eq_true q216
    have p217 : 0 ≤ (x7_1 : Int) := oD ‹_›
    have q217 : x7_1 < (l0.length : Int) := oD ‹_›
    obtain ⟨ad217, e217, hx217_0, hx217_1, hx217_2⟩ := at_T92 HR0.out x7_1 p217 q217
    obtain rfl : ad212 = ad217 := (by injection e217)
    replace p217 := eq_true p217
    replace q217 := eq_true q217
    go_wp2
    go_ret
    exact ⟨by rfl, by repeat (first | exact Drawn0.refl _ | apply Drawn0.step)⟩
   rw [if_neg c11] at H
   have c11b0 : (((rd_T92 l0 x7_1).f1) == a1) = false := beq_eq_false_iff_ne.mpr c11
   have c11b1 : (((rd_T92 l0 x7_1).f1) != a1) = true := bne_iff_ne.mpr c11
   have H' := aM H
   clear H
   have p212 : 0 ≤ (x7_1 : Int) := oD ‹_›
   have q212 : x7_1 < (l0.length : Int) := oD ‹_›
   obtain ⟨ad212, e212, hx212_0, hx212_1, hx212_2⟩ := at_T92 HR0.out x7_1 p212 q212
   cases e212
   replace p212 := eq_true p212
   replace q212 := eq_true q212
   have p216 : 0 ≤ (x7_1 : Int) := oD ‹_›
   have q216 : x7_1 < (l0.length : Int) := oD ‹_›
   obtain ⟨ad216, e216, hx216_0, hx216_1, hx216_2⟩ := at_T92 HR0.out x7_1 p216 q216
   obtain rfl : ad212 = ad216 := (by injection e216)
   replace p216 := eq_true p216
   replace q216 := eq_true q216
   have p217 : 0 ≤ (x7_1 : Int) := oD ‹_›
   have q217 : x7_1 < (l0.length : Int) := oD ‹_›
   obtain ⟨ad217, e217, hx217_0, hx217_1, hx217_2⟩ := at_T92 HR0.out x7_1 p217 q217
   obtain rfl : ad212 = ad217 := (by injection e217)
   replace p217 := eq_true p217
   replace q217 := eq_true q217
   go_wp2
   go_roundg k1
   case measure => have := HK1.out; omega
   case rel => exact ⟨(wrap64 (x7_1 + 1)), (by rfl), H', ⟨by have := HK1.out; omega⟩, by repeat (first | exact Drawn0.refl _ | apply Drawn0.step)⟩
  rw [if_pos c6] at H
  have c6b0 : (((rd_T92 l0 x7_1).f0) == a1) = true := beq_iff_eq.mpr c6
  have c6b1 : (((rd_T92 l0 x7_1).f0) != a1) = false := bne_eq_false_iff_eq.mpr c6
  clear c6
  by_cases c7 : ((rd_T92 l0 x7_1).f1) = a2
  ·rw [if_pos c7] at H
   have c7b0 : (((rd_T92 l0 x7_1).f1) == a2) = true := beq_iff_eq.mpr c7
   have c7b1 : (((rd_T92 l0 x7_1).f1) != a2) = false := bne_eq_false_iff_eq.mpr c7
   clear c7
   obtain rfl := Option.some.inj H
   have p212 : 0 ≤ (x7_1 : Int) := oD ‹_›
   have q212 : x7_1 < (l0.length : Int) := oD ‹_›
   obtain ⟨ad212, e212, hx212_0, hx212_1, hx212_2⟩ := at_T92 HR0.out x7_1 p212 q212
   cases e212
   replace p212 := eq_true p212
   replace q212 := eq_true q212
   have p213 : 0 ≤ (x7_1 : Int) := oD ‹_›
   have q213 : x7_1 < (l0.length : Int) := oD ‹_›
   obtain ⟨ad213, e213, hx213_0, hx213_1, hx213_2⟩ := at_T92 HR0.out x7_1 p213 q213
   obtain rfl : ad212 = ad213 := (by injection e213)
   replace p213 := eq_true p213
   replace q213 := eq_true q213
   go_wp2
   go_ret
   exact ⟨by rfl, by repeat (first | exact Drawn0.refl _ | apply Drawn0.step)⟩
  rw [if_neg c7] at H
  have c7b0 : (((rd_T92 l0 x7_1).f1) == a2) = false := beq_eq_false_iff_ne.mpr c7
  have c7b1 : (((rd_T92 l0 x7_1).f1) != a2) = true := bne_iff_ne.mpr c7
  by_cases c8 : ((rd_T92 l0 x7_1).f0) = a2
  rotate_left
  ·rw [if_neg c8] at H
   have c8b0 : (((rd_T92 l0 x7_1).f0) == a2) = false := beq_eq_false_iff_ne.mpr c8
   have c8b1 : (((rd_T92 l0 x7_1).f0) != a2) = true := bne_iff_ne.mpr c8
   have H' := aM H
   clear H
   have p212 : 0 ≤ (x7_1 : Int) := oD ‹_›
   have q212 : x7_1 < (l0.length : Int) := oD ‹_›
   obtain ⟨ad212, e212, hx212_0, hx212_1, hx212_2⟩ := at_T92 HR0.out x7_1 p212 q212
   cases e212
   replace p212 := eq_true p212
   replace q212 := eq_true q212
   have p213 : 0 ≤ (x7_1 : Int) := oD ‹_›
   have q213 : x7_1 < (l0.length : Int) := oD ‹_›
   obtain ⟨ad213, e213, hx213_0, hx213_1, hx213_2⟩ := at_T92 HR0.out x7_1 p213 q213
   obtain rfl : ad212 = ad213 := (by injection e213)
   replace p213 := eq_true p213
   replace q213 := eq_true q213
   have p214 : 0 ≤ (x7_1 : Int) := oD ‹_›
   have q214 : x7_1 < (l0.length : Int) := oD ‹_›
   obtain ⟨ad214, e214, hx214_0, hx214_1, hx214_2⟩ := at_T92 HR0.out x7_1 p214 q214
   obtain rfl : ad212 = ad214 := (by injection e214)
   replace p214 := eq_true p214
   replace q214 := eq_true q214
   go_wp2
   go_roundg k1
   case measure => have := HK1.out; omega
   case rel => exact ⟨(wrap64 (x7_1 + 1)), (by rfl), H', ⟨by have := HK1.out; omega⟩, by repeat (first | exact Drawn0.refl _ | apply Drawn0.step)⟩
  rw [if_pos c8] at H
  have c8b0 : (((rd_T92 l0 x7_1).f0) == a2) = true := beq_iff_eq.mpr c8
  have c8b1 : (((rd_T92 l0 x7_1).f0) != a2) = false := bne_eq_false_iff_eq.mpr c8
  clear c8
  by_cases c9 : ((rd_T92 l0 x7_1).f1) = a1
  ·rw [if_pos c9] at H
   have c9b0 : (((rd_T92 l0 x7_1).f1) == a1) = true := beq_iff_eq.mpr c9
   have c9b1 : (((rd_T92 l0 x7_1).f1) != a1) = false := bne_eq_false_iff_eq.mpr c9
   clear c9
   obtain rfl := Option.some.inj H
   have p212 : 0 ≤ (x7_1 : Int) := oD ‹_›
   have q212 : x7_1 < (l0.length : Int) := oD ‹_›
   obtain ⟨ad212, e212, hx212_0, hx212_1, hx212_2⟩ := at_T92 HR0.out x7_1 p212 q212
   cases e212
   replace p212 := eq_true p212
   replace q212 := eq_true q212
   have p213 : 0 ≤ (x7_1 : Int) := oD ‹_›
   have q213 : x7_1 < (l0.length : Int) := oD ‹_›
   obtain ⟨ad213, e213, hx213_0, hx213_1, hx213_2⟩ := at_T92 HR0.out x7_1 p213 q213
   obtain rfl : ad212 = ad213 := (by injection e213)
   replace p213 := eq_true p213
   replace q213 := eq_true q213
   have p214 : 0 ≤ (x7_1 : Int) := oD ‹_›
   have q214 : x7_1 < (l0.length : Int) := oD ‹_›
   obtain ⟨ad214, e214, hx214_0, hx214_1, hx214_2⟩ := at_T92 HR0.out x7_1 p214 q214
   obtain rfl : ad212 = ad214 := (by injection e214)
   replace p214 := eq_true p214
   replace q214 := eq_true q214
   have p215 : 0 ≤ (x7_1 : Int) := oD ‹_›
   have q215 : x7_1 < (l0.length : Int) := oD ‹_›
   obtain ⟨ad215, e215, hx215_0, hx215_1, hx215_2⟩ := at_T92 HR0.out x7_1 p215 q215
   obtain rfl : ad212 = ad215 := (by injection e215)
   replace p215 := eq_true p215
   replace q215 := eq_true q215
   go_wp2
   go_ret
   exact ⟨by rfl, by repeat (first | exact Drawn0.refl _ | apply Drawn0.step)⟩
  rw [if_neg c9] at H
  have c9b0 : (((rd_T92 l0 x7_1).f1) == a1) = false := beq_eq_false_iff_ne.mpr c9
  have c9b1 : (((rd_T92 l0 x7_1).f1) != a1) = true := bne_iff_ne.mpr c9
  have H' := aM H
  clear H
  have p212 : 0 ≤ (x7_1 : Int) := oD ‹_›
  have q212 : x7_1 < (l0.length : Int) := oD ‹_›
  obtain ⟨ad212, e212, hx212_0, hx212_1, hx212_2⟩ := at_T92 HR0.out x7_1 p212 q212
  cases e212
  replace p212 := eq_true p212
  replace q212 := eq_true q212
  have p213 : 0 ≤ (x7_1 : Int) := oD ‹_›
  have q213 : x7_1 < (l0.length : Int) := oD ‹_›
  obtain ⟨ad213, e213, hx213_0, hx213_1, hx213_2⟩ := at_T92 HR0.out x7_1 p213 q213
  obtain rfl : ad212 = ad213 := (by injection e213)
  replace p213 := eq_true p213
  replace q213 := eq_true q213
  have p214 : 0 ≤ (x7_1 : Int) := oD ‹_›
  have q214 : x7_1 < (l0.length : Int) := oD ‹_›
  obtain ⟨ad214, e214, hx214_0, hx214_1, hx214_2⟩ := at_T92 HR0.out x7_1 p214 q214
  obtain rfl : ad212 = ad214 := (by injection e214)
  replace p214 := eq_true p214
  replace q214 := eq_true q214
  have p215 : 0 ≤ (x7_1 : Int) := oD ‹_›
  have q215 : x7_1 < (l0.length : Int) := oD ‹_›
  obtain ⟨ad215, e215, hx215_0, hx215_1, hx215_2⟩ := at_T92 HR0.out x7_1 p215 q215
  obtain rfl : ad212 = ad215 := (by injection e215)
  replace p215 := eq_true p215
  replace q215 := eq_true q215
  go_wp2
  go_roundg k1
  case measure => have := HK1.out; omega
  case rel => exact ⟨(wrap64 (x7_1 + 1)), (by rfl), H', ⟨by have := HK1.out; omega⟩, by repeat (first | exact Drawn0.refl _ | apply Drawn0.step)⟩
def impl_within.f (a0 : Int) (a1 : Int) (a2 : Int) : Option (Bool) := if a0 ≥ a1 then (some (decide (a0 ≤ a2))) else (some false)
theorem impl_within.calls (a0 : Int) (a1 : Int) (a2 : Int) (r : Bool) (w : World) (h : impl_within.f a0 a1 a2 = some r) :
  Calls Tryd.prog 37 #[.int .i64 a0, .int .i64 a1, .int .i64 a2] w fun e w' => e = .returned (.bool r) ∧ Drawn0 w w' := by
 have H : (if a0 ≥ a1 then (some (decide (a0 ≤ a2))) else (some false)) = some r := h
 clear h
 by_cases c4 : a0 ≥ a1
 ·rw [if_pos c4] at H
  have c4b0 : decide (a1 ≤ a0) = true := decide_eq_true c4
  clear c4
  obtain rfl := Option.some.inj H
  go_enter Tryd.func37, Tryd.ntmps37
  go_wp2
  go_ret
  exact ⟨by rfl, by repeat (exact Drawn0.refl _)⟩
 rw [if_neg c4] at H
 have c4b0 : decide (a1 ≤ a0) = false := decide_eq_false c4
 clear c4
 obtain rfl := Option.some.inj H
 go_enter Tryd.func37, Tryd.ntmps37
 go_wp2
 go_ret
 exact ⟨by rfl, by repeat (exact Drawn0.refl _)⟩
def impl_isRouter.f (l0_0 : List ByteArray) (l0_1 : List (S92)) (l0_2 : List Int) (l0_3 : List Int) (l0_4 : List (S95)) (l0_5 : List (S97)) (a1 : Int) : Option (Bool) := (impl_within.f a1 0 (wrap64 ((l0_0.length : Int) - 1))).bind fun t219 => (some t219)
theorem impl_isRouter.calls (A0_0 : Option Addr) (c0_0 : Nat) (l0_0 : List ByteArray) (A0_1 : Option Addr) (c0_1 : Nat) (l0_1 : List (S92)) (A0_2 : Option Addr) (c0_2 : Nat) (l0_2 : List Int) (A0_3 : Option Addr) (c0_3 : Nat) (l0_3 : List Int) (A0_4 : Option Addr) (c0_4 : Nat) (l0_4 : List (S95)) (A0_5 : Option Addr) (c0_5 : Nat) (l0_5 : List (S97)) (a1 : Int) (r : Bool) (w : World) (hr0_0 : Kd.C Kd.string w A0_0 l0_0.length l0_0) (hc0_0 : l0_0.length ≤ c0_0) (hr0_1 : Kd.C k92 w A0_1 l0_1.length l0_1) (hc0_1 : l0_1.length ≤ c0_1) (hr0_2 : Kd.C (Kd.int .i64) w A0_2 l0_2.length l0_2) (hc0_2 : l0_2.length ≤ c0_2) (hr0_3 : Kd.C (Kd.int .i64) w A0_3 l0_3.length l0_3) (hc0_3 : l0_3.length ≤ c0_3) (hr0_4 : Kd.C k95 w A0_4 l0_4.length l0_4) (hc0_4 : l0_4.length ≤ c0_4) (hr0_5 : Kd.C k97 w A0_5 l0_5.length l0_5) (hc0_5 : l0_5.length ≤ c0_5) (h : impl_isRouter.f l0_0 l0_1 l0_2 l0_3 l0_4 l0_5 a1 = some r) :
  Calls Tryd.prog 40 #[.agg #[.slice A0_0 l0_0.length c0_0, .slice A0_1 l0_1.length c0_1, .slice A0_2 l0_2.length c0_2, .slice A0_3 l0_3.length c0_3, .slice A0_4 l0_4.length c0_4, .slice A0_5 l0_5.length c0_5], .int .i64 a1] w fun e w' => e = .returned (.bool r) ∧ Below w.heap.size w w' := by
 have hu38 := Tryd.underlying36
 obtain ⟨HR0_0, HC0_0, HR0_1, HC0_1, HR0_2, HC0_2, HR0_3, HC0_3, HR0_4, HC0_4, HR0_5, HC0_5⟩ := as12 hr0_0 hc0_0 hr0_1 hc0_1 hr0_2 hc0_2 hr0_3 hc0_3 hr0_4 hc0_4 hr0_5 hc0_5
 clear hr0_0 hc0_0 hr0_1 hc0_1 hr0_2 hc0_2 hr0_3 hc0_3 hr0_4 hc0_4 hr0_5 hc0_5
 have HB := aM (Below.refl w.heap.size w)
 have H : ((impl_within.f a1 0 (wrap64 ((l0_0.length : Int) - 1))).bind fun t219 => (some t219)) = some r := h
 clear h
 replace H := bS H
 obtain ⟨t219, A30, H⟩ := H
 replace H : (some t219) = some r := H
 have A3 := aM A30
 clear A30
 obtain rfl := Option.some.inj H
 go_enter Tryd.func40, Tryd.ntmps40
 go_wp2_with (first | ((with_reducible refine gate_dst (N := 2) rfl ?_); refine box_event rfl (N := 2) rfl (cs := #[.slice A0_0 l0_0.length c0_0, .slice A0_1 l0_1.length c0_1, .slice A0_2 l0_2.length c0_2, .slice A0_3 l0_3.length c0_3, .slice A0_4 l0_4.length c0_4, .slice A0_5 l0_5.length c0_5]) (t := 36) (by go_simp; done) ?_; intro gb218 hg w4 hbox hb; have BK218 := aM (hbox); have GW218 := bGE HB.out hg; have GE218 := bGE HB.out hg; replace HB := aB HB hb; clear hb hbox hg; obtain ⟨hcz5_0, hcz5_1, hcz5_2, hcz5_3, hcz5_4, hcz5_5⟩ := swc6 BK218.out; obtain ⟨hfz5_0, hfz5_1, hfz5_2, hfz5_3, hfz5_4, hfz5_5⟩ := swf6 BK218.out) | (go_at_call 37; (with_reducible refine (impl_within.calls a1 0 (wrap64 ((l0_0.length : Int) - 1)) t219 _ A3.out).mono ?_); rintro e w' ⟨rfl, ⟨nd, rfl⟩⟩))
 go_ret
 exact ⟨by rfl, by repeat ((with_reducible first | exact HB.out | apply pw_below_drewN))⟩
end Go.Proofs.YtgibacfgjmdjdaaDoor.PFnExactIsStable
end
section
namespace Go.Proofs.YtgibacfgjmdjdaaDoor.PFnExactIsStable
open Go.RowKit Go.Proofs.YtgibacfgjmdjdaaDoorW.PrintWords Go.Proofs.YtgibacfgjmdjdaaDoorW.PrintLast Go.Proofs.YtgibacfgjmdjdaaDoorW.PrintMore
attribute [local go_sem] max2_int min2_int max_two min_two max_three min_three max_four min_four   -- for this text's walks alone
set_option linter.unusedVariables false
set_option linter.unusedSimpArgs false
def impl_NameOK.l0 : Nat → ByteArray → Int → Int → Option (Bool)
 | 0, _, _, _ => none
 | k + 1, x0, x8, x9 => if x9 < x8 then (if 0 ≤ x9 then (if x9 < (x0.size : Int) then (if (bt x0 x9) ≥ 97 then (if (bt x0 x9) ≤ 122 then (if (bt x0 x9) ≥ 48 then (impl_NameOK.l0 k x0 x8 (wrap64 (x9 + 1))) else (impl_NameOK.l0 k x0 x8 (wrap64 (x9 + 1)))) else (if (bt x0 x9) ≥ 65 then (if (bt x0 x9) ≤ 90 then (if (bt x0 x9) ≥ 48 then (impl_NameOK.l0 k x0 x8 (wrap64 (x9 + 1))) else (impl_NameOK.l0 k x0 x8 (wrap64 (x9 + 1)))) else (if (bt x0 x9) ≥ 48 then (if ((bt x0 x9) = 95) then (impl_NameOK.l0 k x0 x8 (wrap64 (x9 + 1))) else (if x9 = 0 then (some false) else (if ((bt x0 x9) ≤ 57) then (impl_NameOK.l0 k x0 x8 (wrap64 (x9 + 1))) else (some false)))) else (if ((bt x0 x9) = 95) then (impl_NameOK.l0 k x0 x8 (wrap64 (x9 + 1))) else (if x9 = 0 then (some false) else (some false))))) else (if (bt x0 x9) ≥ 48 then (if ((bt x0 x9) = 95) then (impl_NameOK.l0 k x0 x8 (wrap64 (x9 + 1))) else (if x9 = 0 then (some false) else (if ((bt x0 x9) ≤ 57) then (impl_NameOK.l0 k x0 x8 (wrap64 (x9 + 1))) else (some false)))) else (if ((bt x0 x9) = 95) then (impl_NameOK.l0 k x0 x8 (wrap64 (x9 + 1))) else (if x9 = 0 then (some false) else (some false)))))) else (if (bt x0 x9) ≥ 65 then (if (bt x0 x9) ≤ 90 then (if (bt x0 x9) ≥ 48 then (impl_NameOK.l0 k x0 x8 (wrap64 (x9 + 1))) else (impl_NameOK.l0 k x0 x8 (wrap64 (x9 + 1)))) else (if (bt x0 x9) ≥ 48 then (if ((bt x0 x9) = 95) then (impl_NameOK.l0 k x0 x8 (wrap64 (x9 + 1))) else (if x9 = 0 then (some false) else (if ((bt x0 x9) ≤ 57) then (impl_NameOK.l0 k x0 x8 (wrap64 (x9 + 1))) else (some false)))) else (if ((bt x0 x9) = 95) then (impl_NameOK.l0 k x0 x8 (wrap64 (x9 + 1))) else (if x9 = 0 then (some false) else (some false))))) else (if (bt x0 x9) ≥ 48 then (if ((bt x0 x9) = 95) then (impl_NameOK.l0 k x0 x8 (wrap64 (x9 + 1))) else (if x9 = 0 then (some false) else (if ((bt x0 x9) ≤ 57) then (impl_NameOK.l0 k x0 x8 (wrap64 (x9 + 1))) else (some false)))) else (if ((bt x0 x9) = 95) then (impl_NameOK.l0 k x0 x8 (wrap64 (x9 + 1))) else (if x9 = 0 then (some false) else (some false)))))) else (none)) else (none)) else ((impl_within.f (x0.size : Int) 1 40).bind fun t220 => (some t220))
def impl_NameOK.f (k : Nat) (a0 : ByteArray) : Option (Bool) := impl_NameOK.l0 k a0 (a0.size : Int) 0
set_option maxHeartbeats 8000000 in
set_option maxRecDepth 100000 in
theorem impl_NameOK.calls (k : Nat) (a0 : ByteArray) (r : Bool) (w : World) (h : impl_NameOK.f k a0 = some r) :
  Calls Tryd.prog 38 #[.string a0] w fun e w' => e = .returned (.bool r) ∧ Drawn0 w w' := by
 have H : (impl_NameOK.l0 k a0 (a0.size : Int) 0) = some r := h
 clear h
 have H' := aM H
 clear H
 go_enter Tryd.func38, Tryd.ntmps38
 go_wp2
 go_loopg [9] k (fun kq v9 w' => ∃ (x9_1 : Int), v9 = .int .i64 x9_1 ∧ Aside0 (impl_NameOK.l0 kq a0 (a0.size : Int) x9_1 = some r) ∧ Aside0 (kq ≤ k) ∧ Drawn0 w w')
 case atStart => exact ⟨(0), (by rfl), H', ⟨Nat.le_refl _⟩, by repeat (exact Drawn0.refl _)⟩
 clear H'
 obtain ⟨x9_1, rfl, HA, HK1, ⟨m1, rfl⟩⟩ := hrel
 cases gk with
 | zero => exact absurd HA.out (by simp [impl_NameOK.l0])
 | succ k1 =>
  have H := HA.out
  clear HA
  simp only [impl_NameOK.l0] at H
  by_cases c2 : x9_1 < (a0.size : Int)
  rotate_left
  ·rw [if_neg c2] at H
   have c2b0 : decide (x9_1 < (a0.size : Int)) = false := decide_eq_false c2
   clear c2
   replace H := bS H
   obtain ⟨t220, A530, H⟩ := H
   replace H : (some t220) = some r := H
   have A53 := aM A530
   clear A530
   obtain rfl := Option.some.inj H
   go_wp2_with ((go_at_call 37; (with_reducible refine (impl_within.calls (a0.size : Int) 1 40 t220 _ A53.out).mono ?_); rintro e w' ⟨rfl, ⟨nd, rfl⟩⟩))
   go_ret
   exact ⟨by rfl, by repeat (first | exact Drawn0.refl _ | apply Drawn0.step)⟩
  rw [if_pos c2] at H
  have c2b0 : decide (x9_1 < (a0.size : Int)) = true := decide_eq_true c2
  clear c2
  by_cases c3 : 0 ≤ x9_1
  rotate_left
  ·rw [if_neg c3] at H
   exact absurd H (by simp)
  rw [if_pos c3] at H
  have c3b0 : decide (0 ≤ x9_1) = true := decide_eq_true c3
  clear c3
  by_cases c4 : x9_1 < (a0.size : Int)
  rotate_left
  ·rw [if_neg c4] at H
   exact absurd H (by simp)
  rw [if_pos c4] at H
  have c4b0 : decide (x9_1 < (a0.size : Int)) = true := decide_eq_true c4
  clear c4
  by_cases c6 : (bt a0 x9_1) ≥ 97
  rotate_left
  ·rw [if_neg c6] at H
   have c6b0 : decide (97 ≤ (bt a0 x9_1)) = false := decide_eq_false c6
   clear c6
   by_cases c32 : (bt a0 x9_1) ≥ 65
   rotate_left
   ·rw [if_neg c32] at H
    have c32b0 : decide (65 ≤ (bt a0 x9_1)) = false := decide_eq_false c32
    clear c32
    by_cases c46 : (bt a0 x9_1) ≥ 48
    rotate_left
    ·rw [if_neg c46] at H
     have c46b0 : decide (48 ≤ (bt a0 x9_1)) = false := decide_eq_false c46
     clear c46
     by_cases c51 : ((bt a0 x9_1) = 95)
     ·rw [if_pos c51] at H
      have c51b0 : ((bt a0 x9_1) == 95) = true := beq_iff_eq.mpr c51
      have c51b1 : ((bt a0 x9_1) != 95) = false := bne_eq_false_iff_eq.mpr c51
      clear c51
      have H' := aM H
      clear H
      have p5 : 0 ≤ (x9_1 : Int) := oD ‹_›
      have q5 : x9_1 < (a0.size : Int) := oD ‹_›
      have hx5 := bt_at a0 x9_1
      replace p5 := eq_true p5
      replace q5 := eq_true q5
      have p45 : 0 ≤ (x9_1 : Int) := oD ‹_›
      have q45 : x9_1 < (a0.size : Int) := oD ‹_›
      have hx45 := bt_at a0 x9_1
      replace p45 := eq_true p45
      replace q45 := eq_true q45
      go_wp2
      go_roundg k1
      case measure => have := HK1.out; omega
      case rel => exact ⟨(wrap64 (x9_1 + 1)), (by rfl), H', ⟨by have := HK1.out; omega⟩, by repeat (first | exact Drawn0.refl _ | apply Drawn0.step)⟩
     rw [if_neg c51] at H
     have c51b0 : ((bt a0 x9_1) == 95) = false := beq_eq_false_iff_ne.mpr c51
     have c51b1 : ((bt a0 x9_1) != 95) = true := bne_iff_ne.mpr c51
     by_cases c52 : x9_1 = 0
     rotate_left
     ·rw [if_neg c52] at H
      have c52b0 : (x9_1 == 0) = false := beq_eq_false_iff_ne.mpr c52
      have c52b1 : (x9_1 != 0) = true := bne_iff_ne.mpr c52
      obtain rfl := Option.some.inj H
      have p5 : 0 ≤ (x9_1 : Int) := oD ‹_›
      have q5 : x9_1 < (a0.size : Int) := oD ‹_›
      have hx5 := bt_at a0 x9_1
      replace p5 := eq_true p5
      replace q5 := eq_true q5
      have p45 : 0 ≤ (x9_1 : Int) := oD ‹_›
      have q45 : x9_1 < (a0.size : Int) := oD ‹_›
      have hx45 := bt_at a0 x9_1
      replace p45 := eq_true p45
      replace q45 := eq_true q45
      go_wp2
      go_ret
      exact ⟨by rfl, by repeat (first | exact Drawn0.refl _ | apply Drawn0.step)⟩
     rw [if_pos c52] at H
     have c52b0 : (x9_1 == 0) = true := beq_iff_eq.mpr c52
     have c52b1 : (x9_1 != 0) = false := bne_eq_false_iff_eq.mpr c52
     clear c52
     obtain rfl := Option.some.inj H
     have p5 : 0 ≤ (x9_1 : Int) := oD ‹_›
     have q5 : x9_1 < (a0.size : Int) := oD ‹_›
     have hx5 := bt_at a0 x9_1
     replace p5 := eq_true p5
     replace q5 := eq_true q5
     have p45 : 0 ≤ (x9_1 : Int) := oD ‹_›
     have q45 : x9_1 < (a0.size : Int) := oD ‹_›
     have hx45 := bt_at a0 x9_1
     replace p45 := eq_true p45
     replace q45 := eq_true q45
     go_wp2
     go_ret
     exact ⟨by rfl, by repeat (first | exact Drawn0.refl _ | apply Drawn0.step)⟩
    rw [if_pos c46] at H
    have c46b0 : decide (48 ≤ (bt a0 x9_1)) = true := decide_eq_true c46
    clear c46
    by_cases c48 : ((bt a0 x9_1) = 95)
    ·rw [if_pos c48] at H
     have c48b0 : ((bt a0 x9_1) == 95) = true := beq_iff_eq.mpr c48
     have c48b1 : ((bt a0 x9_1) != 95) = false := bne_eq_false_iff_eq.mpr c48
     clear c48
     have H' := aM H
     clear H
     have p5 : 0 ≤ (x9_1 : Int) := oD ‹_›
     have q5 : x9_1 < (a0.size : Int) := oD ‹_›
     have hx5 := bt_at a0 x9_1
     replace p5 := eq_true p5
     replace q5 := eq_true q5
     have p45 : 0 ≤ (x9_1 : Int) := oD ‹_›
     have q45 : x9_1 < (a0.size : Int) := oD ‹_›
     have hx45 := bt_at a0 x9_1
     replace p45 := eq_true p45
     replace q45 := eq_true q45
     have p47 : 0 ≤ (x9_1 : Int) := oD ‹_›
     have q47 : x9_1 < (a0.size : Int) := oD ‹_›
     have hx47 := bt_at a0 x9_1
     replace p47 := eq_true p47
     replace q47 := eq_true q47
     go_wp2
     go_roundg k1
     case measure => have := HK1.out; omega
     case rel => exact ⟨(wrap64 (x9_1 + 1)), (by rfl), H', ⟨by have := HK1.out; omega⟩, by repeat (first | exact Drawn0.refl _ | apply Drawn0.step)⟩
    rw [if_neg c48] at H
    have c48b0 : ((bt a0 x9_1) == 95) = false := beq_eq_false_iff_ne.mpr c48
    have c48b1 : ((bt a0 x9_1) != 95) = true := bne_iff_ne.mpr c48
    by_cases c49 : x9_1 = 0
    ·rw [if_pos c49] at H
     have c49b0 : (x9_1 == 0) = true := beq_iff_eq.mpr c49
     have c49b1 : (x9_1 != 0) = false := bne_eq_false_iff_eq.mpr c49
     clear c49
     obtain rfl := Option.some.inj H
     have p5 : 0 ≤ (x9_1 : Int) := oD ‹_›
     have q5 : x9_1 < (a0.size : Int) := oD ‹_›
     have hx5 := bt_at a0 x9_1
     replace p5 := eq_true p5
     replace q5 := eq_true q5
     have p45 : 0 ≤ (x9_1 : Int) := oD ‹_›
     have q45 : x9_1 < (a0.size : Int) := oD ‹_›
     have hx45 := bt_at a0 x9_1
     replace p45 := eq_true p45
     replace q45 := eq_true q45
     have p47 : 0 ≤ (x9_1 : Int) := oD ‹_›
     have q47 : x9_1 < (a0.size : Int) := oD ‹_›
     have hx47 := bt_at a0 x9_1
     replace p47 := eq_true p47
     replace q47 := eq_true q47
     go_wp2
     go_ret
     exact ⟨by rfl, by repeat (first | exact Drawn0.refl _ | apply Drawn0.step)⟩
    rw [if_neg c49] at H
    have c49b0 : (x9_1 == 0) = false := beq_eq_false_iff_ne.mpr c49
    have c49b1 : (x9_1 != 0) = true := bne_iff_ne.mpr c49
    by_cases c50 : ((bt a0 x9_1) ≤ 57)
    rotate_left
    ·rw [if_neg c50] at H
     have c50b0 : decide ((bt a0 x9_1) ≤ 57) = false := decide_eq_false c50
     clear c50
     obtain rfl := Option.some.inj H
     have p5 : 0 ≤ (x9_1 : Int) := oD ‹_›
     have q5 : x9_1 < (a0.size : Int) := oD ‹_›
     have hx5 := bt_at a0 x9_1
     replace p5 := eq_true p5
     replace q5 := eq_true q5
     have p45 : 0 ≤ (x9_1 : Int) := oD ‹_›
     have q45 : x9_1 < (a0.size : Int) := oD ‹_›
     have hx45 := bt_at a0 x9_1
     replace p45 := eq_true p45
     replace q45 := eq_true q45
     have p47 : 0 ≤ (x9_1 : Int) := oD ‹_›
     have q47 : x9_1 < (a0.size : Int) := oD ‹_›
     have hx47 := bt_at a0 x9_1
     replace p47 := eq_true p47
     replace q47 := eq_true q47
     go_wp2
     go_ret
     exact ⟨by rfl, by repeat (first | exact Drawn0.refl _ | apply Drawn0.step)⟩
    rw [if_pos c50] at H
    have c50b0 : decide ((bt a0 x9_1) ≤ 57) = true := decide_eq_true c50
    clear c50
    have H' := aM H
    clear H
    have p5 : 0 ≤ (x9_1 : Int) := oD ‹_›
    have q5 : x9_1 < (a0.size : Int) := oD ‹_›
    have hx5 := bt_at a0 x9_1
    replace p5 := eq_true p5
    replace q5 := eq_true q5
    have p45 : 0 ≤ (x9_1 : Int) := oD ‹_›
    have q45 : x9_1 < (a0.size : Int) := oD ‹_›
    have hx45 := bt_at a0 x9_1
    replace p45 := eq_true p45
    replace q45 := eq_true q45
    have p47 : 0 ≤ (x9_1 : Int) := oD ‹_›
    have q47 : x9_1 < (a0.size : Int) := oD ‹_›
    have hx47 := bt_at a0 x9_1
    replace p47 := eq_true p47
    replace q47 := eq_true q47
    go_wp2
    go_roundg k1
    case measure => have := HK1.out; omega
    case rel => exact ⟨(wrap64 (x9_1 + 1)), (by rfl), H', ⟨by have := HK1.out; omega⟩, by repeat (first | exact Drawn0.refl _ | apply Drawn0.step)⟩
   rw [if_pos c32] at H
   have c32b0 : decide (65 ≤ (bt a0 x9_1)) = true := decide_eq_true c32
   clear c32
   by_cases c33 : (bt a0 x9_1) ≤ 90
   ·rw [if_pos c33] at H
    have c33b0 : decide ((bt a0 x9_1) ≤ 90) = true := decide_eq_true c33
    clear c33
    by_cases c35 : (bt a0 x9_1) ≥ 48
    rotate_left
    ·rw [if_neg c35] at H
     have c35b0 : decide (48 ≤ (bt a0 x9_1)) = false := decide_eq_false c35
     clear c35
     have H' := aM H
     clear H
     have p5 : 0 ≤ (x9_1 : Int) := oD ‹_›
     have q5 : x9_1 < (a0.size : Int) := oD ‹_›
     have hx5 := bt_at a0 x9_1
     replace p5 := eq_true p5
     replace q5 := eq_true q5
     have p34 : 0 ≤ (x9_1 : Int) := oD ‹_›
     have q34 : x9_1 < (a0.size : Int) := oD ‹_›
     have hx34 := bt_at a0 x9_1
     replace p34 := eq_true p34
     replace q34 := eq_true q34
     go_wp2
     go_roundg k1
     case measure => have := HK1.out; omega
     case rel => exact ⟨(wrap64 (x9_1 + 1)), (by rfl), H', ⟨by have := HK1.out; omega⟩, by repeat (first | exact Drawn0.refl _ | apply Drawn0.step)⟩
    rw [if_pos c35] at H
    have c35b0 : decide (48 ≤ (bt a0 x9_1)) = true := decide_eq_true c35
    clear c35
    have H' := aM H
    clear H
    have p5 : 0 ≤ (x9_1 : Int) := oD ‹_›
    have q5 : x9_1 < (a0.size : Int) := oD ‹_›
    have hx5 := bt_at a0 x9_1
    replace p5 := eq_true p5
    replace q5 := eq_true q5
    have p34 : 0 ≤ (x9_1 : Int) := oD ‹_›
    have q34 : x9_1 < (a0.size : Int) := oD ‹_›
    have hx34 := bt_at a0 x9_1
    replace p34 := eq_true p34
    replace q34 := eq_true q34
    have p36 : 0 ≤ (x9_1 : Int) := oD ‹_›
    have q36 : x9_1 < (a0.size : Int) := oD ‹_›
    have hx36 := bt_at a0 x9_1
    replace p36 := eq_true p36
    replace q36 := eq_true q36
    go_wp2
    go_roundg k1
    case measure => have := HK1.out; omega
    case rel => exact ⟨(wrap64 (x9_1 + 1)), (by rfl), H', ⟨by have := HK1.out; omega⟩, by repeat (first | exact Drawn0.refl _ | apply Drawn0.step)⟩
   rw [if_neg c33] at H
   have c33b0 : decide ((bt a0 x9_1) ≤ 90) = false := decide_eq_false c33
   clear c33
   by_cases c38 : (bt a0 x9_1) ≥ 48
   rotate_left
   ·rw [if_neg c38] at H
    have c38b0 : decide (48 ≤ (bt a0 x9_1)) = false := decide_eq_false c38
    clear c38
    by_cases c43 : ((bt a0 x9_1) = 95)
    ·rw [if_pos c43] at H
     have c43b0 : ((bt a0 x9_1) == 95) = true := beq_iff_eq.mpr c43
     have c43b1 : ((bt a0 x9_1) != 95) = false := bne_eq_false_iff_eq.mpr c43
     clear c43
     have H' := aM H
     clear H
     have p5 : 0 ≤ (x9_1 : Int) := oD ‹_›
     have q5 : x9_1 < (a0.size : Int) := oD ‹_›
     have hx5 := bt_at a0 x9_1
     replace p5 := eq_true p5
     replace q5 := eq_true q5
     have p37 : 0 ≤ (x9_1 : Int) := oD ‹_›
     have q37 : x9_1 < (a0.size : Int) := oD ‹_›
     have hx37 := bt_at a0 x9_1
     replace p37 := eq_true p37
     replace q37 := eq_true q37
     go_wp2
     go_roundg k1
     case measure => have := HK1.out; omega
     case rel => exact ⟨(wrap64 (x9_1 + 1)), (by rfl), H', ⟨by have := HK1.out; omega⟩, by repeat (first | exact Drawn0.refl _ | apply Drawn0.step)⟩
    rw [if_neg c43] at H
    have c43b0 : ((bt a0 x9_1) == 95) = false := beq_eq_false_iff_ne.mpr c43
    have c43b1 : ((bt a0 x9_1) != 95) = true := bne_iff_ne.mpr c43
    by_cases c44 : x9_1 = 0
    rotate_left
    ·rw [if_neg c44] at H
     have c44b0 : (x9_1 == 0) = false := beq_eq_false_iff_ne.mpr c44
     have c44b1 : (x9_1 != 0) = true := bne_iff_ne.mpr c44
     obtain rfl := Option.some.inj H
     have p5 : 0 ≤ (x9_1 : Int) := oD ‹_›
     have q5 : x9_1 < (a0.size : Int) := oD ‹_›
     have hx5 := bt_at a0 x9_1
     replace p5 := eq_true p5
     replace q5 := eq_true q5
     have p37 : 0 ≤ (x9_1 : Int) := oD ‹_›
     have q37 : x9_1 < (a0.size : Int) := oD ‹_›
     have hx37 := bt_at a0 x9_1
     replace p37 := eq_true p37
     replace q37 := eq_true q37
     go_wp2
     go_ret
     exact ⟨by rfl, by repeat (first | exact Drawn0.refl _ | apply Drawn0.step)⟩
    rw [if_pos c44] at H
    have c44b0 : (x9_1 == 0) = true := beq_iff_eq.mpr c44
    have c44b1 : (x9_1 != 0) = false := bne_eq_false_iff_eq.mpr c44
    clear c44
    obtain rfl := Option.some.inj H
    have p5 : 0 ≤ (x9_1 : Int) := oD ‹_›
    have q5 : x9_1 < (a0.size : Int) := oD ‹_›
    have hx5 := bt_at a0 x9_1
    replace p5 := eq_true p5
    replace q5 := eq_true q5
    have p37 : 0 ≤ (x9_1 : Int) := oD ‹_›
    have q37 : x9_1 < (a0.size : Int) := oD ‹_›
    have hx37 := bt_at a0 x9_1
    replace p37 := eq_true p37
    replace q37 := eq_true q37
    go_wp2
    go_ret
    exact ⟨by rfl, by repeat (first | exact Drawn0.refl _ | apply Drawn0.step)⟩
   rw [if_pos c38] at H
   have c38b0 : decide (48 ≤ (bt a0 x9_1)) = true := decide_eq_true c38
   clear c38
   by_cases c40 : ((bt a0 x9_1) = 95)
   ·rw [if_pos c40] at H
    have c40b0 : ((bt a0 x9_1) == 95) = true := beq_iff_eq.mpr c40
    have c40b1 : ((bt a0 x9_1) != 95) = false := bne_eq_false_iff_eq.mpr c40
    clear c40
    have H' := aM H
    clear H
    have p5 : 0 ≤ (x9_1 : Int) := oD ‹_›
    have q5 : x9_1 < (a0.size : Int) := oD ‹_›
    have hx5 := bt_at a0 x9_1
    replace p5 := eq_true p5
    replace q5 := eq_true q5
    have p37 : 0 ≤ (x9_1 : Int) := oD ‹_›
    have q37 : x9_1 < (a0.size : Int) := oD ‹_›
    have hx37 := bt_at a0 x9_1
    replace p37 := eq_true p37
    replace q37 := eq_true q37
    have p39 : 0 ≤ (x9_1 : Int) := oD ‹_›
    have q39 : x9_1 < (a0.size : Int) := oD ‹_›
    have hx39 := bt_at a0 x9_1
    replace p39 := eq_true p39
    replace q39 := eq_true q39
    go_wp2
    go_roundg k1
    case measure => have := HK1.out; omega
    case rel => exact ⟨(wrap64 (x9_1 + 1)), (by rfl), H', ⟨by have := HK1.out; omega⟩, by repeat (first | exact Drawn0.refl _ | apply Drawn0.step)⟩
   rw [if_neg c40] at H
   have c40b0 : ((bt a0 x9_1) == 95) = false := beq_eq_false_iff_ne.mpr c40
   have c40b1 : ((bt a0 x9_1) != 95) = true := bne_iff_ne.mpr c40
   by_cases c41 : x9_1 = 0
   ·rw [if_pos c41] at H
    have c41b0 : (x9_1 == 0) = true := beq_iff_eq.mpr c41
    have c41b1 : (x9_1 != 0) = false := bne_eq_false_iff_eq.mpr c41
    clear c41
    obtain rfl := Option.some.inj H
    have p5 : 0 ≤ (x9_1 : Int) := oD ‹_›
    have q5 : x9_1 < (a0.size : Int) := oD ‹_›
    have hx5 := bt_at a0 x9_1
    replace p5 := eq_true p5
    replace q5 := eq_true q5
    have p37 : 0 ≤ (x9_1 : Int) := oD ‹_›
    have q37 : x9_1 < (a0.size : Int) := oD ‹_›
    have hx37 := bt_at a0 x9_1
    replace p37 := eq_true p37
    replace q37 := eq_true q37
    have p39 : 0 ≤ (x9_1 : Int) := oD ‹_›
    have q39 : x9_1 < (a0.size : Int) := oD ‹_›
    have hx39 := bt_at a0 x9_1
    replace p39 := eq_true p39
    replace q39 := eq_true q39
    go_wp2
    go_ret
    exact ⟨by rfl, by repeat (first | exact Drawn0.refl _ | apply Drawn0.step)⟩
   rw [if_neg c41] at H
   have c41b0 : (x9_1 == 0) = false := beq_eq_false_iff_ne.mpr c41
   have c41b1 : (x9_1 != 0) = true := bne_iff_ne.mpr c41
   by_cases c42 : ((bt a0 x9_1) ≤ 57)
   rotate_left
   ·rw [if_neg c42] at H
    have c42b0 : decide ((bt a0 x9_1) ≤ 57) = false := decide_eq_false c42
    clear c42
    obtain rfl := Option.some.inj H
    have p5 : 0 ≤ (x9_1 : Int) := oD ‹_›
    have q5 : x9_1 < (a0.size : Int) := oD ‹_›
    have hx5 := bt_at a0 x9_1
    replace p5 := eq_true p5
    replace q5 := eq_true q5
    have p37 : 0 ≤ (x9_1 : Int) := oD ‹_›
    have q37 : x9_1 < (a0.size : Int) := oD ‹_›
    have hx37 := bt_at a0 x9_1
    replace p37 := eq_true p37
    replace q37 := eq_true q37
    have p39 : 0 ≤ (x9_1 : Int) := oD ‹_›
    have q39 : x9_1 < (a0.size : Int) := oD ‹_›
    have hx39 := bt_at a0 x9_1
    replace p39 := eq_true p39
    replace q39 := eq_true q39
    go_wp2
    go_ret
    exact ⟨by rfl, by repeat (first | exact Drawn0.refl _ | apply Drawn0.step)⟩
   rw [if_pos c42] at H
   have c42b0 : decide ((bt a0 x9_1) ≤ 57) = true := decide_eq_true c42
   clear c42
   have H' := aM H
   clear H
   have p5 : 0 ≤ (x9_1 : Int) := oD ‹_›
   have q5 : x9_1 < (a0.size : Int) := oD ‹_›
   have hx5 := bt_at a0 x9_1
   replace p5 := eq_true p5
   replace q5 := eq_true q5
   have p37 : 0 ≤ (x9_1 : Int) := oD ‹_›
   have q37 : x9_1 < (a0.size : Int) := oD ‹_›
   have hx37 := bt_at a0 x9_1
   replace p37 := eq_true p37
   replace q37 := eq_true q37
   have p39 : 0 ≤ (x9_1 : Int) := oD ‹_›
   have q39 : x9_1 < (a0.size : Int) := oD ‹_›
   have hx39 := bt_at a0 x9_1
   replace p39 := eq_true p39
   replace q39 := eq_true q39
   go_wp2
   go_roundg k1
   case measure => have := HK1.out; omega
   case rel => exact ⟨(wrap64 (x9_1 + 1)), (by rfl), H', ⟨by have := HK1.out; omega⟩, by repeat (first | exact Drawn0.refl _ | apply Drawn0.step)⟩
  rw [if_pos c6] at H
  have c6b0 : decide (97 ≤ (bt a0 x9_1)) = true := decide_eq_true c6
  clear c6
  by_cases c7 : (bt a0 x9_1) ≤ 122
  ·rw [if_pos c7] at H
   have c7b0 : decide ((bt a0 x9_1) ≤ 122) = true := decide_eq_true c7
   clear c7
   by_cases c9 : (bt a0 x9_1) ≥ 48
   rotate_left
   ·rw [if_neg c9] at H
    have c9b0 : decide (48 ≤ (bt a0 x9_1)) = false := decide_eq_false c9
    clear c9
    have H' := aM H
    clear H
    have p5 : 0 ≤ (x9_1 : Int) := oD ‹_›
    have q5 : x9_1 < (a0.size : Int) := oD ‹_›
    have hx5 := bt_at a0 x9_1
    replace p5 := eq_true p5
    replace q5 := eq_true q5
    have p8 : 0 ≤ (x9_1 : Int) := oD ‹_›
    have q8 : x9_1 < (a0.size : Int) := oD ‹_›
    have hx8 := bt_at a0 x9_1
    replace p8 := eq_true p8
    replace q8 := eq_true q8
    go_wp2
    go_roundg k1
    case measure => have := HK1.out; omega
    case rel => exact ⟨(wrap64 (x9_1 + 1)), (by rfl), H', ⟨by have := HK1.out; omega⟩, by repeat (first | exact Drawn0.refl _ | apply Drawn0.step)⟩
   rw [if_pos c9] at H
   have c9b0 : decide (48 ≤ (bt a0 x9_1)) = true := decide_eq_true c9
   clear c9
   have H' := aM H
   clear H
   have p5 : 0 ≤ (x9_1 : Int) := oD ‹_›
   have q5 : x9_1 < (a0.size : Int) := oD ‹_›
   have hx5 := bt_at a0 x9_1
   replace p5 := eq_true p5
   replace q5 := eq_true q5
   have p8 : 0 ≤ (x9_1 : Int) := oD ‹_›
   have q8 : x9_1 < (a0.size : Int) := oD ‹_›
   have hx8 := bt_at a0 x9_1
   replace p8 := eq_true p8
   replace q8 := eq_true q8
   have p10 : 0 ≤ (x9_1 : Int) := oD ‹_›
   have q10 : x9_1 < (a0.size : Int) := oD ‹_›
   have hx10 := bt_at a0 x9_1
   replace p10 := eq_true p10
   replace q10 := eq_true q10
   go_wp2
   go_roundg k1
   case measure => have := HK1.out; omega
   case rel => exact ⟨(wrap64 (x9_1 + 1)), (by rfl), H', ⟨by have := HK1.out; omega⟩, by repeat (first | exact Drawn0.refl _ | apply Drawn0.step)⟩
  rw [if_neg c7] at H
  have c7b0 : decide ((bt a0 x9_1) ≤ 122) = false := decide_eq_false c7
  clear c7
  by_cases c11 : (bt a0 x9_1) ≥ 65
  rotate_left
  ·rw [if_neg c11] at H
   have c11b0 : decide (65 ≤ (bt a0 x9_1)) = false := decide_eq_false c11
   clear c11
   by_cases c25 : (bt a0 x9_1) ≥ 48
   rotate_left
   ·rw [if_neg c25] at H
    have c25b0 : decide (48 ≤ (bt a0 x9_1)) = false := decide_eq_false c25
    clear c25
    by_cases c30 : ((bt a0 x9_1) = 95)
    ·rw [if_pos c30] at H
     have c30b0 : ((bt a0 x9_1) == 95) = true := beq_iff_eq.mpr c30
     have c30b1 : ((bt a0 x9_1) != 95) = false := bne_eq_false_iff_eq.mpr c30
     clear c30
     have H' := aM H
     clear H
     have p5 : 0 ≤ (x9_1 : Int) := oD ‹_›
     have q5 : x9_1 < (a0.size : Int) := oD ‹_›
     have hx5 := bt_at a0 x9_1
     replace p5 := eq_true p5
     replace q5 := eq_true q5
     have p24 : 0 ≤ (x9_1 : Int) := oD ‹_›
     have q24 : x9_1 < (a0.size : Int) := oD ‹_›
     have hx24 := bt_at a0 x9_1
     replace p24 := eq_true p24
     replace q24 := eq_true q24
     go_wp2
     go_roundg k1
     case measure => have := HK1.out; omega
     case rel => exact ⟨(wrap64 (x9_1 + 1)), (by rfl), H', ⟨by have := HK1.out; omega⟩, by repeat (first | exact Drawn0.refl _ | apply Drawn0.step)⟩
    rw [if_neg c30] at H
    have c30b0 : ((bt a0 x9_1) == 95) = false := beq_eq_false_iff_ne.mpr c30
    have c30b1 : ((bt a0 x9_1) != 95) = true := bne_iff_ne.mpr c30
    by_cases c31 : x9_1 = 0
    rotate_left
    ·rw [if_neg c31] at H
     have c31b0 : (x9_1 == 0) = false := beq_eq_false_iff_ne.mpr c31
     have c31b1 : (x9_1 != 0) = true := bne_iff_ne.mpr c31
     obtain rfl := Option.some.inj H
     have p5 : 0 ≤ (x9_1 : Int) := oD ‹_›
     have q5 : x9_1 < (a0.size : Int) := oD ‹_›
     have hx5 := bt_at a0 x9_1
     replace p5 := eq_true p5
     replace q5 := eq_true q5
     have p24 : 0 ≤ (x9_1 : Int) := oD ‹_›
     have q24 : x9_1 < (a0.size : Int) := oD ‹_›
     have hx24 := bt_at a0 x9_1
     replace p24 := eq_true p24
     replace q24 := eq_true q24
     go_wp2
     go_ret
     exact ⟨by rfl, by repeat (first | exact Drawn0.refl _ | apply Drawn0.step)⟩
    rw [if_pos c31] at H
    have c31b0 : (x9_1 == 0) = true := beq_iff_eq.mpr c31
    have c31b1 : (x9_1 != 0) = false := bne_eq_false_iff_eq.mpr c31
    clear c31
    obtain rfl := Option.some.inj H
    have p5 : 0 ≤ (x9_1 : Int) := oD ‹_›
    have q5 : x9_1 < (a0.size : Int) := oD ‹_›
    have hx5 := bt_at a0 x9_1
    replace p5 := eq_true p5
    replace q5 := eq_true q5
    have p24 : 0 ≤ (x9_1 : Int) := oD ‹_›
    have q24 : x9_1 < (a0.size : Int) := oD ‹_›
    have hx24 := bt_at a0 x9_1
    replace p24 := eq_true p24
    replace q24 := eq_true q24
    go_wp2
    go_ret
    exact ⟨by rfl, by repeat (first | exact Drawn0.refl _ | apply Drawn0.step)⟩
   rw [if_pos c25] at H
   have c25b0 : decide (48 ≤ (bt a0 x9_1)) = true := decide_eq_true c25
   clear c25
   by_cases c27 : ((bt a0 x9_1) = 95)
   ·rw [if_pos c27] at H
    have c27b0 : ((bt a0 x9_1) == 95) = true := beq_iff_eq.mpr c27
    have c27b1 : ((bt a0 x9_1) != 95) = false := bne_eq_false_iff_eq.mpr c27
    clear c27
    have H' := aM H
    clear H
    have p5 : 0 ≤ (x9_1 : Int) := oD ‹_›
    have q5 : x9_1 < (a0.size : Int) := oD ‹_›
    have hx5 := bt_at a0 x9_1
    replace p5 := eq_true p5
    replace q5 := eq_true q5
    have p24 : 0 ≤ (x9_1 : Int) := oD ‹_›
    have q24 : x9_1 < (a0.size : Int) := oD ‹_›
    have hx24 := bt_at a0 x9_1
    replace p24 := eq_true p24
    replace q24 := eq_true q24
    have p26 : 0 ≤ (x9_1 : Int) := oD ‹_›
    have q26 : x9_1 < (a0.size : Int) := oD ‹_›
    have hx26 := bt_at a0 x9_1
    replace p26 := eq_true p26
    replace q26 := eq_true q26
    go_wp2
    go_roundg k1
    case measure => have := HK1.out; omega
    case rel => exact ⟨(wrap64 (x9_1 + 1)), (by rfl), H', ⟨by have := HK1.out; omega⟩, by repeat (first | exact Drawn0.refl _ | apply Drawn0.step)⟩
   rw [if_neg c27] at H
   have c27b0 : ((bt a0 x9_1) == 95) = false := beq_eq_false_iff_ne.mpr c27
   have c27b1 : ((bt a0 x9_1) != 95) = true := bne_iff_ne.mpr c27
   by_cases c28 : x9_1 = 0
   ·rw [if_pos c28] at H
    have c28b0 : (x9_1 == 0) = true := beq_iff_eq.mpr c28
    have c28b1 : (x9_1 != 0) = false := bne_eq_false_iff_eq.mpr c28
    clear c28
    obtain rfl := Option.some.inj H
    have p5 : 0 ≤ (x9_1 : Int) := oD ‹_›
    have q5 : x9_1 < (a0.size : Int) := oD ‹_›
    have hx5 := bt_at a0 x9_1
    replace p5 := eq_true p5
    replace q5 := eq_true q5
    have p24 : 0 ≤ (x9_1 : Int) := oD ‹_›
    have q24 : x9_1 < (a0.size : Int) := oD ‹_›
    have hx24 := bt_at a0 x9_1
    replace p24 := eq_true p24
    replace q24 := eq_true q24
    have p26 : 0 ≤ (x9_1 : Int) := oD ‹_›
    have q26 : x9_1 < (a0.size : Int) := oD ‹_›
    have hx26 := bt_at a0 x9_1
    replace p26 := eq_true p26
    replace q26 := eq_true q26
    go_wp2
    go_ret
    exact ⟨by rfl, by repeat (first | exact Drawn0.refl _ | apply Drawn0.step)⟩
   rw [if_neg c28] at H
   have c28b0 : (x9_1 == 0) = false := beq_eq_false_iff_ne.mpr c28
   have c28b1 : (x9_1 != 0) = true := bne_iff_ne.mpr c28
   by_cases c29 : ((bt a0 x9_1) ≤ 57)
   rotate_left
   ·rw [if_neg c29] at H
    have c29b0 : decide ((bt a0 x9_1) ≤ 57) = false := decide_eq_false c29
    clear c29
    obtain rfl := Option.some.inj H
    have p5 : 0 ≤ (x9_1 : Int) := oD ‹_›
    have q5 : x9_1 < (a0.size : Int) := oD ‹_›
    have hx5 := bt_at a0 x9_1
    replace p5 := eq_true p5
    replace q5 := eq_true q5
    have p24 : 0 ≤ (x9_1 : Int) := oD ‹_›
    have q24 : x9_1 < (a0.size : Int) := oD ‹_›
    have hx24 := bt_at a0 x9_1
    replace p24 := eq_true p24
    replace q24 := eq_true q24
    have p26 : 0 ≤ (x9_1 : Int) := oD ‹_›
    have q26 : x9_1 < (a0.size : Int) := oD ‹_›
    have hx26 := bt_at a0 x9_1
    replace p26 := eq_true p26
    replace q26 := eq_true q26
    go_wp2
    go_ret
    exact ⟨by rfl, by repeat (first | exact Drawn0.refl _ | apply Drawn0.step)⟩
   rw [if_pos c29] at H
   have c29b0 : decide ((bt a0 x9_1) ≤ 57) = true := decide_eq_true c29
   clear c29
   have H' := aM H
   clear H
   have p5 : 0 ≤ (x9_1 : Int) := oD ‹_›
   have q5 : x9_1 < (a0.size : Int) := oD ‹_›
   have hx5 := bt_at a0 x9_1
   replace p5 := eq_true p5
   replace q5 := eq_true q5
   have p24 : 0 ≤ (x9_1 : Int) := oD ‹_›
   have q24 : x9_1 < (a0.size : Int) := oD ‹_›
   have hx24 := bt_at a0 x9_1
   replace p24 := eq_true p24
   replace q24 := eq_true q24
   have p26 : 0 ≤ (x9_1 : Int) := oD ‹_›
   have q26 : x9_1 < (a0.size : Int) := oD ‹_›
   have hx26 := bt_at a0 x9_1
   replace p26 := eq_true p26
   replace q26 := eq_true q26
   go_wp2
   go_roundg k1
   case measure => have := HK1.out; omega
   case rel => exact ⟨(wrap64 (x9_1 + 1)), (by rfl), H', ⟨by have := HK1.out; omega⟩, by repeat (first | exact Drawn0.refl _ | apply Drawn0.step)⟩
  rw [if_pos c11] at H
  have c11b0 : decide (65 ≤ (bt a0 x9_1)) = true := decide_eq_true c11
  clear c11
  by_cases c12 : (bt a0 x9_1) ≤ 90
  ·rw [if_pos c12] at H
   have c12b0 : decide ((bt a0 x9_1) ≤ 90) = true := decide_eq_true c12
   clear c12
   by_cases c14 : (bt a0 x9_1) ≥ 48
   rotate_left
   ·rw [if_neg c14] at H
    have c14b0 : decide (48 ≤ (bt a0 x9_1)) = false := decide_eq_false c14
    clear c14
    have H' := aM H
    clear H
    have p5 : 0 ≤ (x9_1 : Int) := oD ‹_›
    have q5 : x9_1 < (a0.size : Int) := oD ‹_›
    have hx5 := bt_at a0 x9_1
    replace p5 := eq_true p5
    replace q5 := eq_true q5
    have p13 : 0 ≤ (x9_1 : Int) := oD ‹_›
    have q13 : x9_1 < (a0.size : Int) := oD ‹_›
    have hx13 := bt_at a0 x9_1
    replace p13 := eq_true p13
    replace q13 := eq_true q13
    go_wp2
    go_roundg k1
    case measure => have := HK1.out; omega
    case rel => exact ⟨(wrap64 (x9_1 + 1)), (by rfl), H', ⟨by have := HK1.out; omega⟩, by repeat (first | exact Drawn0.refl _ | apply Drawn0.step)⟩
   rw [if_pos c14] at H
   have c14b0 : decide (48 ≤ (bt a0 x9_1)) = true := decide_eq_true c14
   clear c14
   have H' := aM H
   clear H
   have p5 : 0 ≤ (x9_1 : Int) := oD ‹_›
   have q5 : x9_1 < (a0.size : Int) := oD ‹_›
   have hx5 := bt_at a0 x9_1
   replace p5 := eq_true p5
   replace q5 := eq_true q5
   have p13 : 0 ≤ (x9_1 : Int) := oD ‹_›
   have q13 : x9_1 < (a0.size : Int) := oD ‹_›
   have hx13 := bt_at a0 x9_1
   replace p13 := eq_true p13
   replace q13 := eq_true q13
   have p15 : 0 ≤ (x9_1 : Int) := oD ‹_›
   have q15 : x9_1 < (a0.size : Int) := oD ‹_›
   have hx15 := bt_at a0 x9_1
   replace p15 := eq_true p15
   replace q15 := eq_true q15
   go_wp2
   go_roundg k1
   case measure => have := HK1.out; omega
   case rel => exact ⟨(wrap64 (x9_1 + 1)), (by rfl), H', ⟨by have := HK1.out; omega⟩, by repeat (first | exact Drawn0.refl _ | apply Drawn0.step)⟩
  rw [if_neg c12] at H
  have c12b0 : decide ((bt a0 x9_1) ≤ 90) = false := decide_eq_false c12
  clear c12
  by_cases c17 : (bt a0 x9_1) ≥ 48
  rotate_left
  ·rw [if_neg c17] at H
   have c17b0 : decide (48 ≤ (bt a0 x9_1)) = false := decide_eq_false c17
   clear c17
   by_cases c22 : ((bt a0 x9_1) = 95)
   ·rw [if_pos c22] at H
    have c22b0 : ((bt a0 x9_1) == 95) = true := beq_iff_eq.mpr c22
    have c22b1 : ((bt a0 x9_1) != 95) = false := bne_eq_false_iff_eq.mpr c22
    clear c22
    have H' := aM H
    clear H
    have p5 : 0 ≤ (x9_1 : Int) := oD ‹_›
    have q5 : x9_1 < (a0.size : Int) := oD ‹_›
    have hx5 := bt_at a0 x9_1
    replace p5 := eq_true p5
    replace q5 := eq_true q5
    have p16 : 0 ≤ (x9_1 : Int) := oD ‹_›
    have q16 : x9_1 < (a0.size : Int) := oD ‹_›
    have hx16 := bt_at a0 x9_1
    replace p16 := eq_true p16
    replace q16 := eq_true q16
    go_wp2
    go_roundg k1
    case measure => have := HK1.out; omega
    case rel => exact ⟨(wrap64 (x9_1 + 1)), (by rfl), H', ⟨by have := HK1.out; omega⟩, by repeat (first | exact Drawn0.refl _ | apply Drawn0.step)⟩
   rw [if_neg c22] at H
   have c22b0 : ((bt a0 x9_1) == 95) = false := beq_eq_false_iff_ne.mpr c22
   have c22b1 : ((bt a0 x9_1) != 95) = true := bne_iff_ne.mpr c22
   by_cases c23 : x9_1 = 0
   rotate_left
   ·rw [if_neg c23] at H
    have c23b0 : (x9_1 == 0) = false := beq_eq_false_iff_ne.mpr c23
    have c23b1 : (x9_1 != 0) = true := bne_iff_ne.mpr c23
    obtain rfl := Option.some.inj H
    have p5 : 0 ≤ (x9_1 : Int) := oD ‹_›
    have q5 : x9_1 < (a0.size : Int) := oD ‹_›
    have hx5 := bt_at a0 x9_1
    replace p5 := eq_true p5
    replace q5 := eq_true q5
    have p16 : 0 ≤ (x9_1 : Int) := oD ‹_›
    have q16 : x9_1 < (a0.size : Int) := oD ‹_›
    have hx16 := bt_at a0 x9_1
    replace p16 := eq_true p16
    replace q16 := eq_true q16
    go_wp2
    go_ret
    exact ⟨by rfl, by repeat (first | exact Drawn0.refl _ | apply Drawn0.step)⟩
   rw [if_pos c23] at H
   have c23b0 : (x9_1 == 0) = true := beq_iff_eq.mpr c23
   have c23b1 : (x9_1 != 0) = false := bne_eq_false_iff_eq.mpr c23
   clear c23
   obtain rfl := Option.some.inj H
   have p5 : 0 ≤ (x9_1 : Int) := oD ‹_›
   have q5 : x9_1 < (a0.size : Int) := oD ‹_›
   have hx5 := bt_at a0 x9_1
   replace p5 := eq_true p5
   replace q5 := eq_true q5
   have p16 : 0 ≤ (x9_1 : Int) := oD ‹_›
   have q16 : x9_1 < (a0.size : Int) := oD ‹_›
   have hx16 := bt_at a0 x9_1
   replace p16 := eq_true p16
   replace q16 := eq_true q16
   go_wp2
   go_ret
   exact ⟨by rfl, by repeat (first | exact Drawn0.refl _ | apply Drawn0.step)⟩
  rw [if_pos c17] at H
  have c17b0 : decide (48 ≤ (bt a0 x9_1)) = true := decide_eq_true c17
  clear c17
  by_cases c19 : ((bt a0 x9_1) = 95)
  ·rw [if_pos c19] at H
   have c19b0 : ((bt a0 x9_1) == 95) = true := beq_iff_eq.mpr c19
   have c19b1 : ((bt a0 x9_1) != 95) = false := bne_eq_false_iff_eq.mpr c19
   clear c19
   have H' := aM H
   clear H
   have p5 : 0 ≤ (x9_1 : Int) := oD ‹_›
   have q5 : x9_1 < (a0.size : Int) := oD ‹_›
   have hx5 := bt_at a0 x9_1
   replace p5 := eq_true p5
   replace q5 := eq_true q5
   have p16 : 0 ≤ (x9_1 : Int) := oD ‹_›
   have q16 : x9_1 < (a0.size : Int) := oD ‹_›
   have hx16 := bt_at a0 x9_1
   replace p16 := eq_true p16
   replace q16 := eq_true q16
   have p18 : 0 ≤ (x9_1 : Int) := oD ‹_›
   have q18 : x9_1 < (a0.size : Int) := oD ‹_›
   have hx18 := bt_at a0 x9_1
   replace p18 := eq_true p18
   replace q18 := eq_true q18
   go_wp2
   go_roundg k1
   case measure => have := HK1.out; omega
   case rel => exact ⟨(wrap64 (x9_1 + 1)), (by rfl), H', ⟨by have := HK1.out; omega⟩, by repeat (first | exact Drawn0.refl _ | apply Drawn0.step)⟩
  rw [if_neg c19] at H
  have c19b0 : ((bt a0 x9_1) == 95) = false := beq_eq_false_iff_ne.mpr c19
  have c19b1 : ((bt a0 x9_1) != 95) = true := bne_iff_ne.mpr c19
  by_cases c20 : x9_1 = 0
  ·rw [if_pos c20] at H
   have c20b0 : (x9_1 == 0) = true := beq_iff_eq.mpr c20
   have c20b1 : (x9_1 != 0) = false := bne_eq_false_iff_eq.mpr c20
   clear c20
   obtain rfl := Option.some.inj H
   have p5 : 0 ≤ (x9_1 : Int) := oD ‹_›
   have q5 : x9_1 < (a0.size : Int) := oD ‹_›
   have hx5 := bt_at a0 x9_1
   replace p5 := eq_true p5
   replace q5 := eq_true q5
   have p16 : 0 ≤ (x9_1 : Int) := oD ‹_›
   have q16 : x9_1 < (a0.size : Int) := oD ‹_›
   have hx16 := bt_at a0 x9_1
   replace p16 := eq_true p16
   replace q16 := eq_true q16
   have p18 : 0 ≤ (x9_1 : Int) := oD ‹_›
   have q18 : x9_1 < (a0.size : Int) := oD ‹_›
   have hx18 := bt_at a0 x9_1
   replace p18 := eq_true p18
   replace q18 := eq_true q18
   go_wp2
   go_ret
   exact ⟨by rfl, by repeat (first | exact Drawn0.refl _ | apply Drawn0.step)⟩
  rw [if_neg c20] at H
  have c20b0 : (x9_1 == 0) = false := beq_eq_false_iff_ne.mpr c20
  have c20b1 : (x9_1 != 0) = true := bne_iff_ne.mpr c20
  by_cases c21 : ((bt a0 x9_1) ≤ 57)
  rotate_left
  ·rw [if_neg c21] at H
   have c21b0 : decide ((bt a0 x9_1) ≤ 57) = false := decide_eq_false c21
   clear c21
   obtain rfl := Option.some.inj H
   have p5 : 0 ≤ (x9_1 : Int) := oD ‹_›
   have q5 : x9_1 < (a0.size : Int) := oD ‹_›
   have hx5 := bt_at a0 x9_1
   replace p5 := eq_true p5
   replace q5 := eq_true q5
   have p16 : 0 ≤ (x9_1 : Int) := oD ‹_›
   have q16 : x9_1 < (a0.size : Int) := oD ‹_›
   have hx16 := bt_at a0 x9_1
   replace p16 := eq_true p16
   replace q16 := eq_true q16
   have p18 : 0 ≤ (x9_1 : Int) := oD ‹_›
   have q18 : x9_1 < (a0.size : Int) := oD ‹_›
   have hx18 := bt_at a0 x9_1
   replace p18 := eq_true p18
   replace q18 := eq_true q18
   go_wp2
   go_ret
   exact ⟨by rfl, by repeat (first | exact Drawn0.refl _ | apply Drawn0.step)⟩
  rw [if_pos c21] at H
  have c21b0 : decide ((bt a0 x9_1) ≤ 57) = true := decide_eq_true c21
  clear c21
  have H' := aM H
  clear H
  have p5 : 0 ≤ (x9_1 : Int) := oD ‹_›
  have q5 : x9_1 < (a0.size : Int) := oD ‹_›
  have hx5 := bt_at a0 x9_1
  replace p5 := eq_true p5
  replace q5 := eq_true q5
  have p16 : 0 ≤ (x9_1 : Int) := oD ‹_›
  have q16 : x9_1 < (a0.size : Int) := oD ‹_›
  have hx16 := bt_at a0 x9_1
  replace p16 := eq_true p16
  replace q16 := eq_true q16
  have p18 : 0 ≤ (x9_1 : Int) := oD ‹_›
  have q18 : x9_1 < (a0.size : Int) := oD ‹_›
  have hx18 := bt_at a0 x9_1
  replace p18 := eq_true p18
  replace q18 := eq_true q18
  go_wp2
  go_roundg k1
  case measure => have := HK1.out; omega
  case rel => exact ⟨(wrap64 (x9_1 + 1)), (by rfl), H', ⟨by have := HK1.out; omega⟩, by repeat (first | exact Drawn0.refl _ | apply Drawn0.step)⟩
end Go.Proofs.YtgibacfgjmdjdaaDoor.PFnExactIsStable
end
section
namespace Go.Proofs.YtgibacfgjmdjdaaDoor.PFnExactIsStable
open Go.RowKit Go.Proofs.YtgibacfgjmdjdaaDoorW.PrintWords Go.Proofs.YtgibacfgjmdjdaaDoorW.PrintLast Go.Proofs.YtgibacfgjmdjdaaDoorW.PrintMore
attribute [local go_sem] max2_int min2_int max_two min_two max_three min_three max_four min_four   -- for this text's walks alone
set_option linter.unusedVariables false
set_option maxHeartbeats 8000000
set_option maxRecDepth 100000
set_option linter.unusedSimpArgs false
def slices_Index_string_string.l0 : Nat → List ByteArray → ByteArray → Int → Int → Option (Int)
 | 0, _, _, _, _ => none
 | k + 1, x0, x1, x7, x8 => if x8 < x7 then (if 0 ≤ x8 then (if x8 < (x0.length : Int) then (if x1.toList = (rdOf ByteArray.empty x0 x8).toList then (some x8) else (slices_Index_string_string.l0 k x0 x1 x7 (wrap64 (x8 + 1)))) else (none)) else (none)) else (some (-1))
def slices_Index_string_string.f (k : Nat) (l0 : List ByteArray) (a1 : ByteArray) : Option (Int) := slices_Index_string_string.l0 k l0 a1 (l0.length : Int) 0
theorem slices_Index_string_string.calls (k : Nat) (A0 : Option Addr) (c0 : Nat) (l0 : List ByteArray) (a1 : ByteArray) (r : Int) (w : World) (hr0 : Kd.C Kd.string w A0 l0.length l0) (hc0 : l0.length ≤ c0) (h : slices_Index_string_string.f k l0 a1 = some r) :
  Calls Tryd.prog 58 #[.slice A0 l0.length c0, .string a1] w fun e w' => e = .returned (.int .i64 r) ∧ Drawn0 w w' := by
 have HR0 := aM hr0
 have HC0 := aM hc0
 clear hr0 hc0
 have H : (slices_Index_string_string.l0 k l0 a1 (l0.length : Int) 0) = some r := h
 clear h
 have H' := aM H
 clear H
 go_enter Tryd.func58, Tryd.ntmps58
 go_wp2
 go_loopg [8] k (fun kq v8 w' => ∃ (x8_1 : Int), v8 = .int .i64 x8_1 ∧ Aside0 (slices_Index_string_string.l0 kq l0 a1 (l0.length : Int) x8_1 = some r) ∧ Aside0 (kq ≤ k) ∧ Drawn0 w w')
 case atStart => exact ⟨(0), (by rfl), H', ⟨Nat.le_refl _⟩, by repeat (exact Drawn0.refl _)⟩
 clear H'
 obtain ⟨x8_1, rfl, HA, HK1, ⟨m1, rfl⟩⟩ := hrel
 cases gk with
 | zero => exact absurd HA.out (by simp [slices_Index_string_string.l0])
 | succ k1 =>
  have H := HA.out
  clear HA
  simp only [slices_Index_string_string.l0] at H
  by_cases c3 : x8_1 < (l0.length : Int)
  rotate_left
  ·rw [if_neg c3] at H
   have c3b0 : decide (x8_1 < (l0.length : Int)) = false := decide_eq_false c3
   clear c3
   obtain rfl := Option.some.inj H
   go_wp2
   go_ret
   exact ⟨by rfl, by repeat (first | exact Drawn0.refl _ | apply Drawn0.step)⟩
  rw [if_pos c3] at H
  have c3b0 : decide (x8_1 < (l0.length : Int)) = true := decide_eq_true c3
  clear c3
  by_cases c4 : 0 ≤ x8_1
  rotate_left
  ·rw [if_neg c4] at H
   exact absurd H (by simp)
  rw [if_pos c4] at H
  have c4b0 : decide (0 ≤ x8_1) = true := decide_eq_true c4
  clear c4
  by_cases c5 : x8_1 < (l0.length : Int)
  rotate_left
  ·rw [if_neg c5] at H
   exact absurd H (by simp)
  rw [if_pos c5] at H
  have c5b0 : decide (x8_1 < (l0.length : Int)) = true := decide_eq_true c5
  clear c5
  by_cases c6 : a1.toList = (rdOf ByteArray.empty l0 x8_1).toList
  ·rw [if_pos c6] at H
   have c6b0 : (a1.toList == (rdOf ByteArray.empty l0 x8_1).toList) = true := beq_iff_eq.mpr c6
   have c6b1 : (a1.toList != (rdOf ByteArray.empty l0 x8_1).toList) = false := bne_eq_false_iff_eq.mpr c6
   clear c6
   obtain rfl := Option.some.inj H
   have p221 : 0 ≤ (x8_1 : Int) := oD ‹_›
   have q221 : x8_1 < (l0.length : Int) := oD ‹_›
   obtain ⟨ad221, e221, hx221_0⟩ := Kd.at_string HR0.out x8_1 p221 q221
   cases e221
   replace p221 := eq_true p221
   replace q221 := eq_true q221
   go_wp2
   go_ret
   exact ⟨by rfl, by repeat (first | exact Drawn0.refl _ | apply Drawn0.step)⟩
  rw [if_neg c6] at H
  have c6b0 : (a1.toList == (rdOf ByteArray.empty l0 x8_1).toList) = false := beq_eq_false_iff_ne.mpr c6
  have c6b1 : (a1.toList != (rdOf ByteArray.empty l0 x8_1).toList) = true := bne_iff_ne.mpr c6
  have H' := aM H
  clear H
  have p221 : 0 ≤ (x8_1 : Int) := oD ‹_›
  have q221 : x8_1 < (l0.length : Int) := oD ‹_›
  obtain ⟨ad221, e221, hx221_0⟩ := Kd.at_string HR0.out x8_1 p221 q221
  cases e221
  replace p221 := eq_true p221
  replace q221 := eq_true q221
  go_wp2
  go_roundg k1
  case measure => have := HK1.out; omega
  case rel => exact ⟨(wrap64 (x8_1 + 1)), (by rfl), H', ⟨by have := HK1.out; omega⟩, by repeat (first | exact Drawn0.refl _ | apply Drawn0.step)⟩
def slices_Contains_string_string.f (k : Nat) (l0 : List ByteArray) (a1 : ByteArray) : Option (Bool) := (slices_Index_string_string.f k l0 a1).bind fun t222 => (some (decide (t222 ≥ 0)))
theorem slices_Contains_string_string.calls (k : Nat) (A0 : Option Addr) (c0 : Nat) (l0 : List ByteArray) (a1 : ByteArray) (r : Bool) (w : World) (hr0 : Kd.C Kd.string w A0 l0.length l0) (hc0 : l0.length ≤ c0) (h : slices_Contains_string_string.f k l0 a1 = some r) :
  Calls Tryd.prog 39 #[.slice A0 l0.length c0, .string a1] w fun e w' => e = .returned (.bool r) ∧ Drawn0 w w' := by
 have HR0 := aM hr0
 have HC0 := aM hc0
 clear hr0 hc0
 have H : ((slices_Index_string_string.f k l0 a1).bind fun t222 => (some (decide (t222 ≥ 0)))) = some r := h
 clear h
 replace H := bS H
 obtain ⟨t222, A30, H⟩ := H
 replace H : (some (decide (t222 ≥ 0))) = some r := H
 have A3 := aM A30
 clear A30
 obtain rfl := Option.some.inj H
 go_enter Tryd.func39, Tryd.ntmps39
 go_wp2_with ((go_at_call 58; (with_reducible refine (slices_Index_string_string.calls k _ _ l0 a1 t222 _ HR0.out HC0.out A3.out).mono ?_); rintro e w' ⟨rfl, ⟨nd, rfl⟩⟩))
 go_ret
 exact ⟨by rfl, by repeat (first | exact Drawn0.refl _ | apply Drawn0.step)⟩
def impl_isImport.f (a0_0 : Int) (a0_1 : Int) (a0_2 : Int) (a0_3 : Int) (a0_4 : Int) : Option (Bool) := if a0_3 = 2 then ((impl_within.f a0_2 0 2).bind fun t224 => (if t224 = true then ((impl_within.f a0_3 1 4).bind fun t225 => (if t225 = true then ((impl_within.f a0_4 0 1000).bind fun t226 => (some t226)) else (some false))) else (some false))) else ((impl_within.f a0_2 0 2).bind fun t227 => (if t227 = true then ((impl_within.f a0_3 1 4).bind fun t228 => (if t228 = true then ((impl_within.f a0_4 0 0).bind fun t229 => (some t229)) else (some false))) else (some false)))
theorem impl_isImport.calls (a0_0 : Int) (a0_1 : Int) (a0_2 : Int) (a0_3 : Int) (a0_4 : Int) (r : Bool) (w : World) (h : impl_isImport.f a0_0 a0_1 a0_2 a0_3 a0_4 = some r) :
  Calls Tryd.prog 44 #[.agg #[.int .i64 a0_0, .int .i64 a0_1, .int .i64 a0_2, .int .i64 a0_3, .int .i64 a0_4]] w fun e w' => e = .returned (.bool r) ∧ Below w.heap.size w w' := by
 have hu95 := Tryd.underlying65
 have HB := aM (Below.refl w.heap.size w)
 have H : (if a0_3 = 2 then ((impl_within.f a0_2 0 2).bind fun t224 => (if t224 = true then ((impl_within.f a0_3 1 4).bind fun t225 => (if t225 = true then ((impl_within.f a0_4 0 1000).bind fun t226 => (some t226)) else (some false))) else (some false))) else ((impl_within.f a0_2 0 2).bind fun t227 => (if t227 = true then ((impl_within.f a0_3 1 4).bind fun t228 => (if t228 = true then ((impl_within.f a0_4 0 0).bind fun t229 => (some t229)) else (some false))) else (some false)))) = some r := h
 clear h
 by_cases c2 : a0_3 = 2
 ·rw [if_pos c2] at H
  have c2b0 : (a0_3 == 2) = true := beq_iff_eq.mpr c2
  have c2b1 : (a0_3 != 2) = false := bne_eq_false_iff_eq.mpr c2
  clear c2
  replace H := bS H
  obtain ⟨t224, A30, H⟩ := H
  replace H : (if t224 = true then ((impl_within.f a0_3 1 4).bind fun t225 => (if t225 = true then ((impl_within.f a0_4 0 1000).bind fun t226 => (some t226)) else (some false))) else (some false)) = some r := H
  have A3 := aM A30
  clear A30
  by_cases c4 : t224 = true
  rotate_left
  ·replace c4 := Bool.eq_false_iff.mpr c4
   subst c4
   rw [if_neg (show ¬ (false = true) by decide)] at H
   obtain rfl := Option.some.inj H
   go_enter Tryd.func44, Tryd.ntmps44
   go_wp2_with (first | ((with_reducible refine gate_dst (N := 1) rfl ?_); refine box_event rfl (N := 1) rfl (cs := #[.int .i64 a0_0, .int .i64 a0_1, .int .i64 a0_2, .int .i64 a0_3, .int .i64 a0_4]) (t := 65) (by go_simp; done) ?_; intro gb223 hg w12 hbox hb; have BK223 := aM (hbox); have GW223 := bGE HB.out hg; have GE223 := bGE HB.out hg; replace HB := aB HB hb; clear hb hbox hg; obtain ⟨hcz13_0, hcz13_1, hcz13_2, hcz13_3, hcz13_4⟩ := swc5 BK223.out; obtain ⟨hfz13_0, hfz13_1, hfz13_2, hfz13_3, hfz13_4⟩ := swf5 BK223.out) | (go_at_call 37; (with_reducible refine (impl_within.calls a0_2 0 2 false _ A3.out).mono ?_); rintro e w' ⟨rfl, ⟨nd, rfl⟩⟩))
   go_ret
   exact ⟨by rfl, by repeat ((with_reducible first | exact HB.out | apply pw_below_drewN))⟩
  subst c4
  rw [if_pos rfl] at H
  replace H := bS H
  obtain ⟨t225, A50, H⟩ := H
  replace H : (if t225 = true then ((impl_within.f a0_4 0 1000).bind fun t226 => (some t226)) else (some false)) = some r := H
  have A5 := aM A50
  clear A50
  by_cases c6 : t225 = true
  rotate_left
  ·replace c6 := Bool.eq_false_iff.mpr c6
   subst c6
   rw [if_neg (show ¬ (false = true) by decide)] at H
   obtain rfl := Option.some.inj H
   go_enter Tryd.func44, Tryd.ntmps44
   go_wp2_with (first | ((with_reducible refine gate_dst (N := 1) rfl ?_); refine box_event rfl (N := 1) rfl (cs := #[.int .i64 a0_0, .int .i64 a0_1, .int .i64 a0_2, .int .i64 a0_3, .int .i64 a0_4]) (t := 65) (by go_simp; done) ?_; intro gb223 hg w10 hbox hb; have BK223 := aM (hbox); have GW223 := bGE HB.out hg; have GE223 := bGE HB.out hg; replace HB := aB HB hb; clear hb hbox hg; obtain ⟨hcz11_0, hcz11_1, hcz11_2, hcz11_3, hcz11_4⟩ := swc5 BK223.out; obtain ⟨hfz11_0, hfz11_1, hfz11_2, hfz11_3, hfz11_4⟩ := swf5 BK223.out) | (go_at_call 37; (with_reducible refine (impl_within.calls a0_2 0 2 true _ A3.out).mono ?_); rintro e w' ⟨rfl, ⟨nd, rfl⟩⟩) | (go_at_call 37; (with_reducible refine (impl_within.calls a0_3 1 4 false _ A5.out).mono ?_); rintro e w' ⟨rfl, ⟨nd, rfl⟩⟩))
   go_ret
   exact ⟨by rfl, by repeat ((with_reducible first | exact HB.out | apply pw_below_drewN))⟩
  subst c6
  rw [if_pos rfl] at H
  replace H := bS H
  obtain ⟨t226, A70, H⟩ := H
  replace H : (some t226) = some r := H
  have A7 := aM A70
  clear A70
  obtain rfl := Option.some.inj H
  go_enter Tryd.func44, Tryd.ntmps44
  go_wp2_with (first | ((with_reducible refine gate_dst (N := 1) rfl ?_); refine box_event rfl (N := 1) rfl (cs := #[.int .i64 a0_0, .int .i64 a0_1, .int .i64 a0_2, .int .i64 a0_3, .int .i64 a0_4]) (t := 65) (by go_simp; done) ?_; intro gb223 hg w8 hbox hb; have BK223 := aM (hbox); have GW223 := bGE HB.out hg; have GE223 := bGE HB.out hg; replace HB := aB HB hb; clear hb hbox hg; obtain ⟨hcz9_0, hcz9_1, hcz9_2, hcz9_3, hcz9_4⟩ := swc5 BK223.out; obtain ⟨hfz9_0, hfz9_1, hfz9_2, hfz9_3, hfz9_4⟩ := swf5 BK223.out) | (go_at_call 37; (with_reducible refine (impl_within.calls a0_2 0 2 true _ A3.out).mono ?_); rintro e w' ⟨rfl, ⟨nd, rfl⟩⟩) | (go_at_call 37; (with_reducible refine (impl_within.calls a0_3 1 4 true _ A5.out).mono ?_); rintro e w' ⟨rfl, ⟨nd, rfl⟩⟩) | (go_at_call 37; (with_reducible refine (impl_within.calls a0_4 0 1000 t226 _ A7.out).mono ?_); rintro e w' ⟨rfl, ⟨nd, rfl⟩⟩))
  go_ret
  exact ⟨by rfl, by repeat ((with_reducible first | exact HB.out | apply pw_below_drewN))⟩
 rw [if_neg c2] at H
 have c2b0 : (a0_3 == 2) = false := beq_eq_false_iff_ne.mpr c2
 have c2b1 : (a0_3 != 2) = true := bne_iff_ne.mpr c2
 replace H := bS H
 obtain ⟨t227, A140, H⟩ := H
 replace H : (if t227 = true then ((impl_within.f a0_3 1 4).bind fun t228 => (if t228 = true then ((impl_within.f a0_4 0 0).bind fun t229 => (some t229)) else (some false))) else (some false)) = some r := H
 have A14 := aM A140
 clear A140
 by_cases c15 : t227 = true
 rotate_left
 ·replace c15 := Bool.eq_false_iff.mpr c15
  subst c15
  rw [if_neg (show ¬ (false = true) by decide)] at H
  obtain rfl := Option.some.inj H
  go_enter Tryd.func44, Tryd.ntmps44
  go_wp2_with (first | ((with_reducible refine gate_dst (N := 1) rfl ?_); refine box_event rfl (N := 1) rfl (cs := #[.int .i64 a0_0, .int .i64 a0_1, .int .i64 a0_2, .int .i64 a0_3, .int .i64 a0_4]) (t := 65) (by go_simp; done) ?_; intro gb223 hg w23 hbox hb; have BK223 := aM (hbox); have GW223 := bGE HB.out hg; have GE223 := bGE HB.out hg; replace HB := aB HB hb; clear hb hbox hg; obtain ⟨hcz24_0, hcz24_1, hcz24_2, hcz24_3, hcz24_4⟩ := swc5 BK223.out; obtain ⟨hfz24_0, hfz24_1, hfz24_2, hfz24_3, hfz24_4⟩ := swf5 BK223.out) | (go_at_call 37; (with_reducible refine (impl_within.calls a0_2 0 2 false _ A14.out).mono ?_); rintro e w' ⟨rfl, ⟨nd, rfl⟩⟩))
  go_ret
  exact ⟨by rfl, by repeat ((with_reducible first | exact HB.out | apply pw_below_drewN))⟩
 subst c15
 rw [if_pos rfl] at H
 replace H := bS H
 obtain ⟨t228, A160, H⟩ := H
 replace H : (if t228 = true then ((impl_within.f a0_4 0 0).bind fun t229 => (some t229)) else (some false)) = some r := H
 have A16 := aM A160
 clear A160
 by_cases c17 : t228 = true
 rotate_left
 ·replace c17 := Bool.eq_false_iff.mpr c17
  subst c17
  rw [if_neg (show ¬ (false = true) by decide)] at H
  obtain rfl := Option.some.inj H
  go_enter Tryd.func44, Tryd.ntmps44
  go_wp2_with (first | ((with_reducible refine gate_dst (N := 1) rfl ?_); refine box_event rfl (N := 1) rfl (cs := #[.int .i64 a0_0, .int .i64 a0_1, .int .i64 a0_2, .int .i64 a0_3, .int .i64 a0_4]) (t := 65) (by go_simp; done) ?_; intro gb223 hg w21 hbox hb; have BK223 := aM (hbox); have GW223 := bGE HB.out hg; have GE223 := bGE HB.out hg; replace HB := aB HB hb; clear hb hbox hg; obtain ⟨hcz22_0, hcz22_1, hcz22_2, hcz22_3, hcz22_4⟩ := swc5 BK223.out; obtain ⟨hfz22_0, hfz22_1, hfz22_2, hfz22_3, hfz22_4⟩ := swf5 BK223.out) | (go_at_call 37; (with_reducible refine (impl_within.calls a0_2 0 2 true _ A14.out).mono ?_); rintro e w' ⟨rfl, ⟨nd, rfl⟩⟩) | (go_at_call 37; (with_reducible refine (impl_within.calls a0_3 1 4 false _ A16.out).mono ?_); rintro e w' ⟨rfl, ⟨nd, rfl⟩⟩))
  go_ret
  exact ⟨by rfl, by repeat ((with_reducible first | exact HB.out | apply pw_below_drewN))⟩
 subst c17
 rw [if_pos rfl] at H
 replace H := bS H
 obtain ⟨t229, A180, H⟩ := H
 replace H : (some t229) = some r := H
 have A18 := aM A180
 clear A180
 obtain rfl := Option.some.inj H
 go_enter Tryd.func44, Tryd.ntmps44
 go_wp2_with (first | ((with_reducible refine gate_dst (N := 1) rfl ?_); refine box_event rfl (N := 1) rfl (cs := #[.int .i64 a0_0, .int .i64 a0_1, .int .i64 a0_2, .int .i64 a0_3, .int .i64 a0_4]) (t := 65) (by go_simp; done) ?_; intro gb223 hg w19 hbox hb; have BK223 := aM (hbox); have GW223 := bGE HB.out hg; have GE223 := bGE HB.out hg; replace HB := aB HB hb; clear hb hbox hg; obtain ⟨hcz20_0, hcz20_1, hcz20_2, hcz20_3, hcz20_4⟩ := swc5 BK223.out; obtain ⟨hfz20_0, hfz20_1, hfz20_2, hfz20_3, hfz20_4⟩ := swf5 BK223.out) | (go_at_call 37; (with_reducible refine (impl_within.calls a0_2 0 2 true _ A14.out).mono ?_); rintro e w' ⟨rfl, ⟨nd, rfl⟩⟩) | (go_at_call 37; (with_reducible refine (impl_within.calls a0_3 1 4 true _ A16.out).mono ?_); rintro e w' ⟨rfl, ⟨nd, rfl⟩⟩) | (go_at_call 37; (with_reducible refine (impl_within.calls a0_4 0 0 t229 _ A18.out).mono ?_); rintro e w' ⟨rfl, ⟨nd, rfl⟩⟩))
 go_ret
 exact ⟨by rfl, by repeat ((with_reducible first | exact HB.out | apply pw_below_drewN))⟩
def idxB {α : Type} (p : α → Bool) : List α → Nat → Int
 | [], _ => -1
 | y :: r, i => if p y = true then (i : Int) else idxB p r (i + 1)
theorem idxB_any {α : Type} (p : α → Bool) : ∀ (l : List α) (i : Nat), decide (idxB p l i ≥ 0) = l.any p
 | [], i => rfl
 | y :: r, i => by
  rw [idxB, List.any_cons]
  cases h : p y with
  | true => rw [if_pos rfl, Bool.true_or]; exact decide_eq_true (by omega)
  | false => rw [if_neg Bool.false_ne_true, Bool.false_or]; exact idxB_any p r (i + 1)
def joinB (a b : Int) (l : S92) : Bool := ((l.f0 == a) && (l.f1 == b)) || ((l.f0 == b) && (l.f1 == a))
set_option maxHeartbeats 1600000 in
set_option maxRecDepth 100000 in
theorem link_fn (l : S92) (a b : Int) (pa pb : Nat) (W : World) (ha : W.cell? ⟨pa, 0, none⟩ = some (.int .i64 a)) (hb : W.cell? ⟨pb, 0, none⟩ = some (.int .i64 b)) :
  Calls Tryd.prog 60 #[.agg #[.int .i64 l.f0, .int .i64 l.f1, .int .i64 l.f2], .pointer (some ⟨pa, 0, none⟩), .pointer (some ⟨pb, 0, none⟩)] W fun e W' => e = .returned (.bool (joinB a b l)) ∧ Below W.heap.size W W' := by
 obtain ⟨x0, x1, x2⟩ := l
 have hu92 := Tryd.underlying62
 have hba : pa < W.heap.size := World.block_lt_of_cell? W _ ha
 have hbb : pb < W.heap.size := World.block_lt_of_cell? W _ hb
 unfold joinB
 simp only
 cases h1 : (x0 == a) <;> cases h2 : (x1 == b) <;> cases h3 : (x0 == b) <;> cases h4 : (x1 == a) <;>
  (go_enter Tryd.func60, Tryd.ntmps60
   go_wp2
   go_ret
   exact ⟨rfl, (Below.refl _ _).alloc (Nat.le_refl _) _⟩)
set_option maxHeartbeats 4000000 in
set_option maxRecDepth 100000 in
theorem idx92 (p : S92 → Bool) (l : List S92) (g : Nat) (lb : Array Value) (eg : ∀ args w, (callFunc g args).run Tryd.prog w = .ok (.enter g args) w) (A : Option Addr) (c : Nat) (w : World) (hd : Kd.C k92 w A l.length l)
  (hp : ∀ (x : S92) (W : World), Below w.heap.size w W → Calls Tryd.prog g (#[.agg #[.int .i64 x.f0, .int .i64 x.f1, .int .i64 x.f2]] ++ lb) W fun e W' => e = .returned (.bool (p x)) ∧ Below W.heap.size W W') :
  Calls Tryd.prog 59 #[.slice A l.length c, .func (.func g) #[] lb] w fun e w' => e = .returned (.int .i64 (idxB p l 0)) ∧ Below w.heap.size w w' := by
 have hn : l.length ≤ 9223372036854775807 := Kd.C_max hd
 have HP := aM hp
 have HD := aM hd
 obtain ⟨r, hr⟩ : ∃ r, idxB p l 0 = r := ⟨_, rfl⟩
 rw [hr]
 have H' : Aside0 (idxB p (l.drop 0) 0 = r) := ⟨by rw [List.drop_zero]; exact hr⟩
 clear hp hd hr
 go_enter Tryd.func59, Tryd.ntmps59
 go_wp2
 go_loopg [5, 8] l.length (fun gg _ s8 wr => ∃ kk : Nat, kk ≤ l.length ∧ l.length - kk ≤ gg ∧ s8 = .int .i64 kk ∧ Aside0 (Below w.heap.size w wr) ∧ Aside0 (idxB p (l.drop kk) kk = r))
 case atStart => exact ⟨0, Nat.zero_le _, by omega, rfl, ⟨Below.refl _ _⟩, H'⟩
 clear H'
 obtain ⟨kk, hkk, hg, rfl, HI, HN⟩ := hrel
 by_cases hlt : kk < l.length
 rotate_left
 ·have hltz : ¬ (kk : Int) < (l.length : Int) := by omega
  have hN := HN.out
  obtain rfl : kk = l.length := by omega
  rw [List.drop_length, idxB] at hN
  subst hN
  go_wp2
  go_ret
  exact ⟨rfl, HI.out⟩
 have hltz : (kk : Int) < (l.length : Int) := by omega
 obtain ⟨ad, ea, hx0, hx1, hx2⟩ := at_T92 HD.out (kk : Int) (by omega) (by omega)
 cases ea
 rw [Int.toNat_natCast] at hx0 hx1 hx2
 replace hx0 := (HI.out.cell (World.block_lt_of_cell? w _ hx0)).trans hx0
 replace hx1 := (HI.out.cell (World.block_lt_of_cell? w _ hx1)).trans hx1
 replace hx2 := (HI.out.cell (World.block_lt_of_cell? w _ hx2)).trans hx2
 have hrd : rd_T92 l (kk : Int) = l[kk] := by unfold rd_T92; simp [List.getD, hlt]
 rw [hrd] at hx0 hx1 hx2
 have hcall := HP.out l[kk] wr HI.out
 have hN := HN.out
 rw [List.drop_eq_getElem_cons hlt, idxB] at hN
 have ew : IntKind.i64.wrap ((kk : Int) + 1) = ((kk + 1 : Nat) : Int) := IntWalk.i64_in _ (by omega)
 clear HN hrd
 generalize l[kk] = x at hcall hN hx0 hx1 hx2
 cases hq : p x with
 | true =>
  rw [hq] at hcall
  rw [hq, if_pos rfl] at hN
  subst hN
  clear hq
  go_wp2_with (go_at_fn g; refine hcall.mono ?_; rintro e w' ⟨rfl, hb⟩)
  go_ret
  exact ⟨rfl, HI.out.trans (hb.mono HI.out.size)⟩
 | false =>
  rw [hq] at hcall
  rw [hq, if_neg Bool.false_ne_true] at hN
  have HN2 := aM hN
  clear hq hN
  go_wp2_with (go_at_fn g; refine hcall.mono ?_; rintro e w' ⟨rfl, hb⟩)
  go_roundg (l.length - (kk + 1))
  case measure => omega
  case rel => exact ⟨kk + 1, by omega, by omega, by go_num, ⟨HI.out.trans (hb.mono HI.out.size)⟩, HN2⟩
def impl_linkOf.f (l0_0 : List ByteArray) (l0_1 : List S92) (l0_2 : List Int) (l0_3 : List Int) (l0_4 : List S95) (l0_5 : List S97) (a1 a2 : Int) : Option Int := some (idxB (joinB a1 a2) l0_1 0)
set_option maxHeartbeats 1600000 in
set_option maxRecDepth 100000 in
theorem impl_linkOf.calls (A0_0 : Option Addr) (c0_0 : Nat) (l0_0 : List ByteArray) (A0_1 : Option Addr) (c0_1 : Nat) (l0_1 : List S92) (A0_2 : Option Addr) (c0_2 : Nat) (l0_2 : List Int) (A0_3 : Option Addr) (c0_3 : Nat) (l0_3 : List Int) (A0_4 : Option Addr) (c0_4 : Nat) (l0_4 : List S95) (A0_5 : Option Addr) (c0_5 : Nat) (l0_5 : List S97) (a1 a2 : Int) (r : Int) (w : World) (hr0_0 : Kd.C Kd.string w A0_0 l0_0.length l0_0) (hc0_0 : l0_0.length ≤ c0_0) (hr0_1 : Kd.C k92 w A0_1 l0_1.length l0_1) (hc0_1 : l0_1.length ≤ c0_1) (hr0_2 : Kd.C (Kd.int .i64) w A0_2 l0_2.length l0_2) (hc0_2 : l0_2.length ≤ c0_2) (hr0_3 : Kd.C (Kd.int .i64) w A0_3 l0_3.length l0_3) (hc0_3 : l0_3.length ≤ c0_3) (hr0_4 : Kd.C k95 w A0_4 l0_4.length l0_4) (hc0_4 : l0_4.length ≤ c0_4) (hr0_5 : Kd.C k97 w A0_5 l0_5.length l0_5) (hc0_5 : l0_5.length ≤ c0_5) (h : impl_linkOf.f l0_0 l0_1 l0_2 l0_3 l0_4 l0_5 a1 a2 = some r) :
  Calls Tryd.prog 41 #[.agg #[.slice A0_0 l0_0.length c0_0, .slice A0_1 l0_1.length c0_1, .slice A0_2 l0_2.length c0_2, .slice A0_3 l0_3.length c0_3, .slice A0_4 l0_4.length c0_4, .slice A0_5 l0_5.length c0_5], .int .i64 a1, .int .i64 a2] w fun e w' => e = .returned (.int .i64 r) ∧ Below w.heap.size w w' := by
 obtain rfl : idxB (joinB a1 a2) l0_1 0 = r := Option.some.inj h
 clear h
 have hu38 := Tryd.underlying36
 have HR := aM hr0_1
 have HB := aM (Below.refl w.heap.size w)
 clear hr0_0 hc0_0 hr0_1 hc0_1 hr0_2 hc0_2 hr0_3 hc0_3 hr0_4 hc0_4 hr0_5 hc0_5
 obtain ⟨w1, hw1⟩ : ∃ w1, w1 = ((w.alloc (.cells #[.slice A0_0 l0_0.length c0_0, .slice A0_1 l0_1.length c0_1, .slice A0_2 l0_2.length c0_2, .slice A0_3 l0_3.length c0_3, .slice A0_4 l0_4.length c0_4, .slice A0_5 l0_5.length c0_5] 36)).alloc (.cells #[.int .i64 a1] 3)).alloc (.cells #[.int .i64 a2] 3) := ⟨_, rfl⟩
 have hb1 : Below w.heap.size w w1 := by rw [hw1]; exact below_alloc (below_alloc (below_alloc (Below.refl _ _) _) _) _
 have hs : ∀ (V : World) (o : Obj), (V.alloc o).heap.size = V.heap.size + 1 := fun V o => by show (V.heap.push _).size = _; simp
 have ha : w1.cell? ⟨w.heap.size + 1, 0, none⟩ = some (.int .i64 a1) := by
  have q := blk_alloc (blk_new (w.alloc (.cells #[.slice A0_0 l0_0.length c0_0, .slice A0_1 l0_1.length c0_1, .slice A0_2 l0_2.length c0_2, .slice A0_3 l0_3.length c0_3, .slice A0_4 l0_4.length c0_4, .slice A0_5 l0_5.length c0_5] 36)) (.cells #[.int .i64 a1] 3)) (.cells #[.int .i64 a2] 3)
  rw [hs, ← hw1] at q
  exact (blk_cell q 0).trans rfl
 have hb : w1.cell? ⟨w.heap.size + 2, 0, none⟩ = some (.int .i64 a2) := by
  have q := blk_new ((w.alloc (.cells #[.slice A0_0 l0_0.length c0_0, .slice A0_1 l0_1.length c0_1, .slice A0_2 l0_2.length c0_2, .slice A0_3 l0_3.length c0_3, .slice A0_4 l0_4.length c0_4, .slice A0_5 l0_5.length c0_5] 36)).alloc (.cells #[.int .i64 a1] 3)) (.cells #[.int .i64 a2] 3)
  rw [hs, hs, ← hw1] at q
  exact (blk_cell q 0).trans rfl
 have hcall := idx92 (joinB a1 a2) l0_1 60 #[.pointer (some ⟨w.heap.size + 1, 0, none⟩), .pointer (some ⟨w.heap.size + 2, 0, none⟩)] (enters_of Tryd.func60 (by kernel_rfl) rfl) A0_1 c0_1 w1 (Kd.C_below HR.out hb1)
  (fun x W hW => link_fn x a1 a2 _ _ W ((hW.cell (World.block_lt_of_cell? _ _ ha)).trans ha) ((hW.cell (World.block_lt_of_cell? _ _ hb)).trans hb))
 have HB1 := aM hb1
 have HW1 := aM hw1
 generalize idxB (joinB a1 a2) l0_1 0 = r at hcall ⊢
 rw [hw1] at hcall
 clear hb1 ha hb hw1
 have HC := aM hcall
 clear hcall
 go_enter Tryd.func41, Tryd.ntmps41
 go_wp2_with (go_at_call 59; refine HC.out.mono ?_; rintro e w' ⟨rfl, hb⟩)
 go_ret
 exact ⟨rfl, by rw [← HW1.out] at hb; exact HB1.out.trans (hb.mono HB1.out.size)⟩
set_option maxHeartbeats 4000000 in
set_option maxRecDepth 100000 in
theorem idx95 (p : S95 → Bool) (l : List S95) (g : Nat) (lb : Array Value) (eg : ∀ args w, (callFunc g args).run Tryd.prog w = .ok (.enter g args) w) (A : Option Addr) (c : Nat) (w : World) (hd : Kd.C k95 w A l.length l)
  (hp : ∀ (x : S95) (W : World), Below w.heap.size w W → Calls Tryd.prog g (#[.agg #[.int .i64 x.f0, .int .i64 x.f1, .int .i64 x.f2, .int .i64 x.f3, .int .i64 x.f4]] ++ lb) W fun e W' => e = .returned (.bool (p x)) ∧ Below W.heap.size W W') :
  Calls Tryd.prog 61 #[.slice A l.length c, .func (.func g) #[] lb] w fun e w' => e = .returned (.int .i64 (idxB p l 0)) ∧ Below w.heap.size w w' := by
 have hn : l.length ≤ 9223372036854775807 := Kd.C_max hd
 have HP := aM hp
 have HD := aM hd
 obtain ⟨r, hr⟩ : ∃ r, idxB p l 0 = r := ⟨_, rfl⟩
 rw [hr]
 have H' : Aside0 (idxB p (l.drop 0) 0 = r) := ⟨by rw [List.drop_zero]; exact hr⟩
 clear hp hd hr
 go_enter Tryd.func61, Tryd.ntmps61
 go_wp2
 go_loopg [5, 8] l.length (fun gg _ s8 wr => ∃ kk : Nat, kk ≤ l.length ∧ l.length - kk ≤ gg ∧ s8 = .int .i64 kk ∧ Aside0 (Below w.heap.size w wr) ∧ Aside0 (idxB p (l.drop kk) kk = r))
 case atStart => exact ⟨0, Nat.zero_le _, by omega, rfl, ⟨Below.refl _ _⟩, H'⟩
 clear H'
 obtain ⟨kk, hkk, hg, rfl, HI, HN⟩ := hrel
 by_cases hlt : kk < l.length
 rotate_left
 ·have hltz : ¬ (kk : Int) < (l.length : Int) := by omega
  have hN := HN.out
  obtain rfl : kk = l.length := by omega
  rw [List.drop_length, idxB] at hN
  subst hN
  go_wp2
  go_ret
  exact ⟨rfl, HI.out⟩
 have hltz : (kk : Int) < (l.length : Int) := by omega
 obtain ⟨ad, ea, hx0, hx1, hx2, hx3, hx4⟩ := at_T95 HD.out (kk : Int) (by omega) (by omega)
 cases ea
 rw [Int.toNat_natCast] at hx0 hx1 hx2 hx3 hx4
 replace hx0 := (HI.out.cell (World.block_lt_of_cell? w _ hx0)).trans hx0
 replace hx1 := (HI.out.cell (World.block_lt_of_cell? w _ hx1)).trans hx1
 replace hx2 := (HI.out.cell (World.block_lt_of_cell? w _ hx2)).trans hx2
 replace hx3 := (HI.out.cell (World.block_lt_of_cell? w _ hx3)).trans hx3
 replace hx4 := (HI.out.cell (World.block_lt_of_cell? w _ hx4)).trans hx4
 have hrd : rd_T95 l (kk : Int) = l[kk] := by unfold rd_T95; simp [List.getD, hlt]
 rw [hrd] at hx0 hx1 hx2 hx3 hx4
 have hcall := HP.out l[kk] wr HI.out
 have hN := HN.out
 rw [List.drop_eq_getElem_cons hlt, idxB] at hN
 have ew : IntKind.i64.wrap ((kk : Int) + 1) = ((kk + 1 : Nat) : Int) := IntWalk.i64_in _ (by omega)
 clear HN hrd
 generalize l[kk] = x at hcall hN hx0 hx1 hx2 hx3 hx4
 cases hq : p x with
 | true =>
  rw [hq] at hcall
  rw [hq, if_pos rfl] at hN
  subst hN
  clear hq
  go_wp2_with (go_at_fn g; refine hcall.mono ?_; rintro e w' ⟨rfl, hb⟩)
  go_ret
  exact ⟨rfl, HI.out.trans (hb.mono HI.out.size)⟩
 | false =>
  rw [hq] at hcall
  rw [hq, if_neg Bool.false_ne_true] at hN
  have HN2 := aM hN
  clear hq hN
  go_wp2_with (go_at_fn g; refine hcall.mono ?_; rintro e w' ⟨rfl, hb⟩)
  go_roundg (l.length - (kk + 1))
  case measure => omega
  case rel => exact ⟨kk + 1, by omega, by omega, by go_num, ⟨HI.out.trans (hb.mono HI.out.size)⟩, HN2⟩
set_option maxHeartbeats 4000000 in
theorem any95 (p : S95 → Bool) (l : List S95) (g : Nat) (lb : Array Value) (eg : ∀ args w, (callFunc g args).run Tryd.prog w = .ok (.enter g args) w) (A : Option Addr) (c : Nat) (w : World) (hd : Kd.C k95 w A l.length l)
  (hp : ∀ (x : S95) (W : World), Below w.heap.size w W → Calls Tryd.prog g (#[.agg #[.int .i64 x.f0, .int .i64 x.f1, .int .i64 x.f2, .int .i64 x.f3, .int .i64 x.f4]] ++ lb) W fun e W' => e = .returned (.bool (p x)) ∧ Below W.heap.size W W') :
  Calls Tryd.prog 42 #[.slice A l.length c, .func (.func g) #[] lb] w fun e w' => e = .returned (.bool (l.any p)) ∧ Below w.heap.size w w' := by
 have hcall := idx95 p l g lb eg A c w hd hp
 rw [← idxB_any p l 0]
 generalize idxB p l 0 = r at hcall ⊢
 clear hp hd
 go_enter Tryd.func42, Tryd.ntmps42
 go_wp2_with (go_at_call 61; refine hcall.mono ?_; rintro e w' ⟨rfl, hb⟩)
 go_ret
 exact ⟨rfl, hb⟩
set_option maxHeartbeats 4000000 in
set_option maxRecDepth 100000 in
theorem idx97 (p : S97 → Bool) (l : List S97) (g : Nat) (lb : Array Value) (eg : ∀ args w, (callFunc g args).run Tryd.prog w = .ok (.enter g args) w) (A : Option Addr) (c : Nat) (w : World) (hd : Kd.C k97 w A l.length l)
  (hp : ∀ (x : S97) (W : World), Below w.heap.size w W → Calls Tryd.prog g (#[.agg #[.int .i64 x.f0, .int .i64 x.f1, .int .i64 x.f2, .int .i64 x.f3]] ++ lb) W fun e W' => e = .returned (.bool (p x)) ∧ Below W.heap.size W W') :
  Calls Tryd.prog 62 #[.slice A l.length c, .func (.func g) #[] lb] w fun e w' => e = .returned (.int .i64 (idxB p l 0)) ∧ Below w.heap.size w w' := by
 have hn : l.length ≤ 9223372036854775807 := Kd.C_max hd
 have HP := aM hp
 have HD := aM hd
 obtain ⟨r, hr⟩ : ∃ r, idxB p l 0 = r := ⟨_, rfl⟩
 rw [hr]
 have H' : Aside0 (idxB p (l.drop 0) 0 = r) := ⟨by rw [List.drop_zero]; exact hr⟩
 clear hp hd hr
 go_enter Tryd.func62, Tryd.ntmps62
 go_wp2
 go_loopg [5, 8] l.length (fun gg _ s8 wr => ∃ kk : Nat, kk ≤ l.length ∧ l.length - kk ≤ gg ∧ s8 = .int .i64 kk ∧ Aside0 (Below w.heap.size w wr) ∧ Aside0 (idxB p (l.drop kk) kk = r))
 case atStart => exact ⟨0, Nat.zero_le _, by omega, rfl, ⟨Below.refl _ _⟩, H'⟩
 clear H'
 obtain ⟨kk, hkk, hg, rfl, HI, HN⟩ := hrel
 by_cases hlt : kk < l.length
 rotate_left
 ·have hltz : ¬ (kk : Int) < (l.length : Int) := by omega
  have hN := HN.out
  obtain rfl : kk = l.length := by omega
  rw [List.drop_length, idxB] at hN
  subst hN
  go_wp2
  go_ret
  exact ⟨rfl, HI.out⟩
 have hltz : (kk : Int) < (l.length : Int) := by omega
 obtain ⟨ad, ea, hx0, hx1, hx2, hx3⟩ := at_T97 HD.out (kk : Int) (by omega) (by omega)
 cases ea
 rw [Int.toNat_natCast] at hx0 hx1 hx2 hx3
 replace hx0 := (HI.out.cell (World.block_lt_of_cell? w _ hx0)).trans hx0
 replace hx1 := (HI.out.cell (World.block_lt_of_cell? w _ hx1)).trans hx1
 replace hx2 := (HI.out.cell (World.block_lt_of_cell? w _ hx2)).trans hx2
 replace hx3 := (HI.out.cell (World.block_lt_of_cell? w _ hx3)).trans hx3
 have hrd : rd_T97 l (kk : Int) = l[kk] := by unfold rd_T97; simp [List.getD, hlt]
 rw [hrd] at hx0 hx1 hx2 hx3
 have hcall := HP.out l[kk] wr HI.out
 have hN := HN.out
 rw [List.drop_eq_getElem_cons hlt, idxB] at hN
 have ew : IntKind.i64.wrap ((kk : Int) + 1) = ((kk + 1 : Nat) : Int) := IntWalk.i64_in _ (by omega)
 clear HN hrd
 generalize l[kk] = x at hcall hN hx0 hx1 hx2 hx3
 cases hq : p x with
 | true =>
  rw [hq] at hcall
  rw [hq, if_pos rfl] at hN
  subst hN
  clear hq
  go_wp2_with (go_at_fn g; refine hcall.mono ?_; rintro e w' ⟨rfl, hb⟩)
  go_ret
  exact ⟨rfl, HI.out.trans (hb.mono HI.out.size)⟩
 | false =>
  rw [hq] at hcall
  rw [hq, if_neg Bool.false_ne_true] at hN
  have HN2 := aM hN
  clear hq hN
  go_wp2_with (go_at_fn g; refine hcall.mono ?_; rintro e w' ⟨rfl, hb⟩)
  go_roundg (l.length - (kk + 1))
  case measure => omega
  case rel => exact ⟨kk + 1, by omega, by omega, by go_num, ⟨HI.out.trans (hb.mono HI.out.size)⟩, HN2⟩
set_option maxHeartbeats 4000000 in
theorem any97 (p : S97 → Bool) (l : List S97) (g : Nat) (lb : Array Value) (eg : ∀ args w, (callFunc g args).run Tryd.prog w = .ok (.enter g args) w) (A : Option Addr) (c : Nat) (w : World) (hd : Kd.C k97 w A l.length l)
  (hp : ∀ (x : S97) (W : World), Below w.heap.size w W → Calls Tryd.prog g (#[.agg #[.int .i64 x.f0, .int .i64 x.f1, .int .i64 x.f2, .int .i64 x.f3]] ++ lb) W fun e W' => e = .returned (.bool (p x)) ∧ Below W.heap.size W W') :
  Calls Tryd.prog 45 #[.slice A l.length c, .func (.func g) #[] lb] w fun e w' => e = .returned (.bool (l.any p)) ∧ Below w.heap.size w w' := by
 have hcall := idx97 p l g lb eg A c w hd hp
 rw [← idxB_any p l 0]
 generalize idxB p l 0 = r at hcall ⊢
 clear hp hd
 go_enter Tryd.func45, Tryd.ntmps45
 go_wp2_with (go_at_call 62; refine hcall.mono ?_; rintro e w' ⟨rfl, hb⟩)
 go_ret
 exact ⟨rfl, hb⟩
def impl_areRouters.l0 : Nat → List Int → List Int → Int → Int → List ByteArray → List (S92) → List Int → List Int → List (S95) → List (S97) → Option (Bool)
 | 0, _, _, _, _, _, _, _, _, _, _ => none
 | k + 1, x1, x7, x8, x9, x231000, x231001, x231002, x231003, x231004, x231005 => if x9 < x8 then (if 0 ≤ x9 then (if x9 < (x7.length : Int) then ((impl_isRouter.f x231000 x231001 x231002 x231003 x231004 x231005 (rd x7 x9)).bind fun t232 => (if t232 = true then (if x9 > 0 then (if 0 ≤ (wrap64 (x9 - 1)) then (if (wrap64 (x9 - 1)) < (x1.length : Int) then (if (rd x1 (wrap64 (x9 - 1))) ≥ (rd x7 x9) then (some false) else (impl_areRouters.l0 k x1 x7 x8 (wrap64 (x9 + 1)) x231000 x231001 x231002 x231003 x231004 x231005)) else (none)) else (none)) else (impl_areRouters.l0 k x1 x7 x8 (wrap64 (x9 + 1)) x231000 x231001 x231002 x231003 x231004 x231005)) else (some false))) else (none)) else (none)) else (some true)
def impl_areRouters.f (k : Nat) (l0_0 : List ByteArray) (l0_1 : List (S92)) (l0_2 : List Int) (l0_3 : List Int) (l0_4 : List (S95)) (l0_5 : List (S97)) (l1 : List Int) : Option (Bool) := impl_areRouters.l0 k l1 l1 (l1.length : Int) 0 l0_0 l0_1 l0_2 l0_3 l0_4 l0_5
theorem impl_areRouters.calls (k : Nat) (A0_0 : Option Addr) (c0_0 : Nat) (l0_0 : List ByteArray) (A0_1 : Option Addr) (c0_1 : Nat) (l0_1 : List (S92)) (A0_2 : Option Addr) (c0_2 : Nat) (l0_2 : List Int) (A0_3 : Option Addr) (c0_3 : Nat) (l0_3 : List Int) (A0_4 : Option Addr) (c0_4 : Nat) (l0_4 : List (S95)) (A0_5 : Option Addr) (c0_5 : Nat) (l0_5 : List (S97)) (A1 : Option Addr) (c1 : Nat) (l1 : List Int) (r : Bool) (w : World) (hr0_0 : Kd.C Kd.string w A0_0 l0_0.length l0_0) (hc0_0 : l0_0.length ≤ c0_0) (hr0_1 : Kd.C k92 w A0_1 l0_1.length l0_1) (hc0_1 : l0_1.length ≤ c0_1) (hr0_2 : Kd.C (Kd.int .i64) w A0_2 l0_2.length l0_2) (hc0_2 : l0_2.length ≤ c0_2) (hr0_3 : Kd.C (Kd.int .i64) w A0_3 l0_3.length l0_3) (hc0_3 : l0_3.length ≤ c0_3) (hr0_4 : Kd.C k95 w A0_4 l0_4.length l0_4) (hc0_4 : l0_4.length ≤ c0_4) (hr0_5 : Kd.C k97 w A0_5 l0_5.length l0_5) (hc0_5 : l0_5.length ≤ c0_5) (hr1 : Kd.C (Kd.int .i64) w A1 l1.length l1) (hc1 : l1.length ≤ c1) (h : impl_areRouters.f k l0_0 l0_1 l0_2 l0_3 l0_4 l0_5 l1 = some r) :
  Calls Tryd.prog 47 #[.agg #[.slice A0_0 l0_0.length c0_0, .slice A0_1 l0_1.length c0_1, .slice A0_2 l0_2.length c0_2, .slice A0_3 l0_3.length c0_3, .slice A0_4 l0_4.length c0_4, .slice A0_5 l0_5.length c0_5], .slice A1 l1.length c1] w fun e w' => e = .returned (.bool r) ∧ Below w.heap.size w w' := by
 have hu38 := Tryd.underlying36
 obtain ⟨HR0_0, HC0_0, HR0_1, HC0_1, HR0_2, HC0_2, HR0_3, HC0_3, HR0_4, HC0_4, HR0_5, HC0_5⟩ := as12 hr0_0 hc0_0 hr0_1 hc0_1 hr0_2 hc0_2 hr0_3 hc0_3 hr0_4 hc0_4 hr0_5 hc0_5
 clear hr0_0 hc0_0 hr0_1 hc0_1 hr0_2 hc0_2 hr0_3 hc0_3 hr0_4 hc0_4 hr0_5 hc0_5
 have HR1 := aM hr1
 have HC1 := aM hc1
 clear hr1 hc1
 have HB := aM (Below.refl w.heap.size w)
 have H : (impl_areRouters.l0 k l1 l1 (l1.length : Int) 0 l0_0 l0_1 l0_2 l0_3 l0_4 l0_5) = some r := h
 clear h
 have H' := aM H
 clear H
 go_enter Tryd.func47, Tryd.ntmps47
 go_wp2_with (((with_reducible refine gate_dst (N := 2) rfl ?_); refine box_event rfl (N := 2) rfl (cs := #[.slice A0_0 l0_0.length c0_0, .slice A0_1 l0_1.length c0_1, .slice A0_2 l0_2.length c0_2, .slice A0_3 l0_3.length c0_3, .slice A0_4 l0_4.length c0_4, .slice A0_5 l0_5.length c0_5]) (t := 36) (by go_simp; done) ?_; intro gb230 hg w3 hbox hb; have BK230 := aM (hbox); have GW230 := bGE HB.out hg; have GE230 := bGE HB.out hg; replace HB := aB HB hb; clear hb hbox hg))
 go_loopg [9] k (fun kq v9 w' => ∃ (x9_1 : Int), v9 = .int .i64 x9_1 ∧ Aside0 (impl_areRouters.l0 kq l1 l1 (l1.length : Int) x9_1 l0_0 l0_1 l0_2 l0_3 l0_4 l0_5 = some r) ∧ Aside0 (kq ≤ k) ∧ Aside0 (w'.heap[gb230]? = some (.cells #[(.slice A0_0 l0_0.length c0_0), (.slice A0_1 l0_1.length c0_1), (.slice A0_2 l0_2.length c0_2), (.slice A0_3 l0_3.length c0_3), (.slice A0_4 l0_4.length c0_4), (.slice A0_5 l0_5.length c0_5)] 36 (0, 0))) ∧ Aside0 (Below w.heap.size w w'))
 case atStart => exact ⟨(0), (by rfl), H', ⟨Nat.le_refl _⟩, ⟨by exact BK230.out⟩, ⟨by repeat ((with_reducible exact HB.out))⟩⟩
 clear H'
 obtain ⟨x9_1, rfl, HA, HK1, BK230, HB⟩ := hrel
 cases gk with
 | zero => exact absurd HA.out (by simp [impl_areRouters.l0])
 | succ k1 =>
  have H := HA.out
  clear HA
  simp only [impl_areRouters.l0] at H
  by_cases c4 : x9_1 < (l1.length : Int)
  rotate_left
  ·rw [if_neg c4] at H
   have c4b0 : decide (x9_1 < (l1.length : Int)) = false := decide_eq_false c4
   clear c4
   obtain rfl := Option.some.inj H
   go_wp2
   go_ret
   exact ⟨by rfl, by repeat ((with_reducible exact HB.out))⟩
  rw [if_pos c4] at H
  have c4b0 : decide (x9_1 < (l1.length : Int)) = true := decide_eq_true c4
  clear c4
  by_cases c5 : 0 ≤ x9_1
  rotate_left
  ·rw [if_neg c5] at H
   exact absurd H (by simp)
  rw [if_pos c5] at H
  have c5b0 : decide (0 ≤ x9_1) = true := decide_eq_true c5
  clear c5
  by_cases c6 : x9_1 < (l1.length : Int)
  rotate_left
  ·rw [if_neg c6] at H
   exact absurd H (by simp)
  rw [if_pos c6] at H
  have c6b0 : decide (x9_1 < (l1.length : Int)) = true := decide_eq_true c6
  clear c6
  replace H := bS H
  obtain ⟨t232, A70, H⟩ := H
  replace H : (if t232 = true then (if x9_1 > 0 then (if 0 ≤ (wrap64 (x9_1 - 1)) then (if (wrap64 (x9_1 - 1)) < (l1.length : Int) then (if (rd l1 (wrap64 (x9_1 - 1))) ≥ (rd l1 x9_1) then (some false) else (impl_areRouters.l0 k1 l1 l1 (l1.length : Int) (wrap64 (x9_1 + 1)) l0_0 l0_1 l0_2 l0_3 l0_4 l0_5)) else (none)) else (none)) else (impl_areRouters.l0 k1 l1 l1 (l1.length : Int) (wrap64 (x9_1 + 1)) l0_0 l0_1 l0_2 l0_3 l0_4 l0_5)) else (some false)) = some r := H
  have A7 := aM A70
  clear A70
  by_cases c8 : t232 = true
  rotate_left
  ·replace c8 := Bool.eq_false_iff.mpr c8
   subst c8
   rw [if_neg (show ¬ (false = true) by decide)] at H
   obtain rfl := Option.some.inj H
   have p231 : 0 ≤ (x9_1 : Int) := oD ‹_›
   have q231 : x9_1 < (l1.length : Int) := oD ‹_›
   obtain ⟨ad231, e231, hx231_0⟩ := Kd.at_int HR1.out x9_1 p231 q231
   cases e231
   replace hx231_0 := swB HB.out hx231_0
   replace p231 := eq_true p231
   replace q231 := eq_true q231
   obtain ⟨hcz20_0, hcz20_1, hcz20_2, hcz20_3, hcz20_4, hcz20_5⟩ := swc6 BK230.out
   obtain ⟨hfz20_0, hfz20_1, hfz20_2, hfz20_3, hfz20_4, hfz20_5⟩ := swf6 BK230.out
   go_wp2_with ((go_at_call 40; (with_reducible refine (impl_isRouter.calls _ _ l0_0 _ _ l0_1 _ _ l0_2 _ _ l0_3 _ _ l0_4 _ _ l0_5 (rd l1 x9_1) false _ (Kd.C_below HR0_0.out HB.out) HC0_0.out (Kd.C_below HR0_1.out HB.out) HC0_1.out (Kd.C_below HR0_2.out HB.out) HC0_2.out (Kd.C_below HR0_3.out HB.out) HC0_3.out (Kd.C_below HR0_4.out HB.out) HC0_4.out (Kd.C_below HR0_5.out HB.out) HC0_5.out A7.out).mono ?_); rintro e w21 ⟨rfl, hb⟩; replace BK230 := aK BK230 hb; replace HB := aB HB hb; (try clear hb)))
   go_ret
   exact ⟨by rfl, by repeat ((with_reducible exact HB.out))⟩
  subst c8
  rw [if_pos rfl] at H
  by_cases c9 : x9_1 > 0
  rotate_left
  ·rw [if_neg c9] at H
   have c9b0 : decide (0 < x9_1) = false := decide_eq_false c9
   clear c9
   have H' := aM H
   clear H
   have p231 : 0 ≤ (x9_1 : Int) := oD ‹_›
   have q231 : x9_1 < (l1.length : Int) := oD ‹_›
   obtain ⟨ad231, e231, hx231_0⟩ := Kd.at_int HR1.out x9_1 p231 q231
   cases e231
   replace hx231_0 := swB HB.out hx231_0
   replace p231 := eq_true p231
   replace q231 := eq_true q231
   obtain ⟨hcz18_0, hcz18_1, hcz18_2, hcz18_3, hcz18_4, hcz18_5⟩ := swc6 BK230.out
   obtain ⟨hfz18_0, hfz18_1, hfz18_2, hfz18_3, hfz18_4, hfz18_5⟩ := swf6 BK230.out
   go_wp2_with ((go_at_call 40; (with_reducible refine (impl_isRouter.calls _ _ l0_0 _ _ l0_1 _ _ l0_2 _ _ l0_3 _ _ l0_4 _ _ l0_5 (rd l1 x9_1) true _ (Kd.C_below HR0_0.out HB.out) HC0_0.out (Kd.C_below HR0_1.out HB.out) HC0_1.out (Kd.C_below HR0_2.out HB.out) HC0_2.out (Kd.C_below HR0_3.out HB.out) HC0_3.out (Kd.C_below HR0_4.out HB.out) HC0_4.out (Kd.C_below HR0_5.out HB.out) HC0_5.out A7.out).mono ?_); rintro e w19 ⟨rfl, hb⟩; replace BK230 := aK BK230 hb; replace HB := aB HB hb; (try clear hb)))
   go_roundg k1
   case measure => have := HK1.out; omega
   case rel => exact ⟨(wrap64 (x9_1 + 1)), (by rfl), H', ⟨by have := HK1.out; omega⟩, ⟨by exact BK230.out⟩, ⟨by repeat ((with_reducible exact HB.out))⟩⟩
  rw [if_pos c9] at H
  have c9b0 : decide (0 < x9_1) = true := decide_eq_true c9
  clear c9
  obtain ⟨ji10, hji10⟩ : ∃ j_ : Int, (wrap64 (x9_1 - 1)) = j_ := ⟨_, rfl⟩
  replace H : (if 0 ≤ (ji10) then (if (ji10) < (l1.length : Int) then (if (rd l1 (ji10)) ≥ (rd l1 x9_1) then (some false) else (impl_areRouters.l0 k1 l1 l1 (l1.length : Int) (wrap64 (x9_1 + 1)) l0_0 l0_1 l0_2 l0_3 l0_4 l0_5)) else (none)) else (none)) = some r := by (rw [hji10] at H; exact H)
  (try rw [hji10] at A7)
  have hji10w : (IntKind.i64.wrap (x9_1 - 1)) = ji10 := (i64_w _).trans hji10
  by_cases c11 : 0 ≤ (ji10)
  rotate_left
  ·rw [if_neg c11] at H
   exact absurd H (by simp)
  rw [if_pos c11] at H
  have c11b0 : decide (0 ≤ (ji10)) = true := decide_eq_true c11
  clear c11
  by_cases c12 : (ji10) < (l1.length : Int)
  rotate_left
  ·rw [if_neg c12] at H
   exact absurd H (by simp)
  rw [if_pos c12] at H
  have c12b0 : decide ((ji10) < (l1.length : Int)) = true := decide_eq_true c12
  clear c12
  by_cases c13 : (rd l1 (ji10)) ≥ (rd l1 x9_1)
  ·rw [if_pos c13] at H
   have c13b0 : decide ((rd l1 x9_1) ≤ (rd l1 (ji10))) = true := decide_eq_true c13
   clear c13
   obtain rfl := Option.some.inj H
   have p231 : 0 ≤ (x9_1 : Int) := oD ‹_›
   have q231 : x9_1 < (l1.length : Int) := oD ‹_›
   obtain ⟨ad231, e231, hx231_0⟩ := Kd.at_int HR1.out x9_1 p231 q231
   cases e231
   replace hx231_0 := swB HB.out hx231_0
   replace p231 := eq_true p231
   replace q231 := eq_true q231
   obtain ⟨hcz14_0, hcz14_1, hcz14_2, hcz14_3, hcz14_4, hcz14_5⟩ := swc6 BK230.out
   obtain ⟨hfz14_0, hfz14_1, hfz14_2, hfz14_3, hfz14_4, hfz14_5⟩ := swf6 BK230.out
   go_wp2_with ((go_at_call 40; (with_reducible refine (impl_isRouter.calls _ _ l0_0 _ _ l0_1 _ _ l0_2 _ _ l0_3 _ _ l0_4 _ _ l0_5 (rd l1 x9_1) true _ (Kd.C_below HR0_0.out HB.out) HC0_0.out (Kd.C_below HR0_1.out HB.out) HC0_1.out (Kd.C_below HR0_2.out HB.out) HC0_2.out (Kd.C_below HR0_3.out HB.out) HC0_3.out (Kd.C_below HR0_4.out HB.out) HC0_4.out (Kd.C_below HR0_5.out HB.out) HC0_5.out A7.out).mono ?_); rintro e w15 ⟨rfl, hb⟩; replace BK230 := aK BK230 hb; replace HB := aB HB hb; (try clear hb); have p233 : 0 ≤ ((ji10) : Int) := oD ‹_›; have q233 : (ji10) < (l1.length : Int) := oD ‹_›; obtain ⟨ad233, e233, hx233_0⟩ := Kd.at_int HR1.out (ji10) p233 q233; obtain rfl : ad231 = ad233 := (by injection e233); replace hx233_0 := swB HB.out hx233_0; replace p233 := eq_true p233; replace q233 := eq_true q233))
   go_ret
   exact ⟨by rfl, by repeat ((with_reducible exact HB.out))⟩
  rw [if_neg c13] at H
  have c13b0 : decide ((rd l1 x9_1) ≤ (rd l1 (ji10))) = false := decide_eq_false c13
  clear c13
  have H' := aM H
  clear H
  have p231 : 0 ≤ (x9_1 : Int) := oD ‹_›
  have q231 : x9_1 < (l1.length : Int) := oD ‹_›
  obtain ⟨ad231, e231, hx231_0⟩ := Kd.at_int HR1.out x9_1 p231 q231
  cases e231
  replace hx231_0 := swB HB.out hx231_0
  replace p231 := eq_true p231
  replace q231 := eq_true q231
  obtain ⟨hcz16_0, hcz16_1, hcz16_2, hcz16_3, hcz16_4, hcz16_5⟩ := swc6 BK230.out
  obtain ⟨hfz16_0, hfz16_1, hfz16_2, hfz16_3, hfz16_4, hfz16_5⟩ := swf6 BK230.out
  go_wp2_with ((go_at_call 40; (with_reducible refine (impl_isRouter.calls _ _ l0_0 _ _ l0_1 _ _ l0_2 _ _ l0_3 _ _ l0_4 _ _ l0_5 (rd l1 x9_1) true _ (Kd.C_below HR0_0.out HB.out) HC0_0.out (Kd.C_below HR0_1.out HB.out) HC0_1.out (Kd.C_below HR0_2.out HB.out) HC0_2.out (Kd.C_below HR0_3.out HB.out) HC0_3.out (Kd.C_below HR0_4.out HB.out) HC0_4.out (Kd.C_below HR0_5.out HB.out) HC0_5.out A7.out).mono ?_); rintro e w17 ⟨rfl, hb⟩; replace BK230 := aK BK230 hb; replace HB := aB HB hb; (try clear hb); have p233 : 0 ≤ ((ji10) : Int) := oD ‹_›; have q233 : (ji10) < (l1.length : Int) := oD ‹_›; obtain ⟨ad233, e233, hx233_0⟩ := Kd.at_int HR1.out (ji10) p233 q233; obtain rfl : ad231 = ad233 := (by injection e233); replace hx233_0 := swB HB.out hx233_0; replace p233 := eq_true p233; replace q233 := eq_true q233))
  go_roundg k1
  case measure => have := HK1.out; omega
  case rel => exact ⟨(wrap64 (x9_1 + 1)), (by rfl), H', ⟨by have := HK1.out; omega⟩, ⟨by exact BK230.out⟩, ⟨by repeat ((with_reducible exact HB.out))⟩⟩
end Go.Proofs.YtgibacfgjmdjdaaDoor.PFnExactIsStable
end
section
namespace Go.Proofs.YtgibacfgjmdjdaaDoor.PFnExactIsStable
open Go.RowKit Go.Proofs.YtgibacfgjmdjdaaDoorW.PrintWords Go.Proofs.YtgibacfgjmdjdaaDoorW.PrintLast Go.Proofs.YtgibacfgjmdjdaaDoorW.PrintMore
attribute [local go_sem] max2_int min2_int max_two min_two max_three min_three max_four min_four   -- for this text's walks alone
set_option linter.unusedVariables false
set_option linter.unusedSimpArgs false
def routerB (n : Nat) (r : Int) : Bool := decide (0 ≤ r) && decide (r ≤ (n : Int) - 1)
def inB (a lo hi : Int) : Bool := decide (lo ≤ a) && decide (a ≤ hi)
theorem within_is (a lo hi : Int) : impl_within.f a lo hi = some (inB a lo hi) := by
 unfold impl_within.f inB
 by_cases h : a ≥ lo
 ·rw [if_pos h, decide_eq_true (show lo ≤ a from h), Bool.true_and]
 rw [if_neg h, decide_eq_false (show ¬ lo ≤ a from h), Bool.false_and]
theorem router_is (l0_0 : List ByteArray) (l0_1 : List S92) (l0_2 : List Int) (l0_3 : List Int) (l0_4 : List S95) (l0_5 : List S97) (a : Int) (hl : l0_0.length ≤ 9223372036854775807) : impl_isRouter.f l0_0 l0_1 l0_2 l0_3 l0_4 l0_5 a = some (routerB l0_0.length a) := by
 unfold impl_isRouter.f routerB
 rw [within_is, Option.bind_some]
 unfold inB
 rw [show wrap64 ((l0_0.length : Int) - 1) = (l0_0.length : Int) - 1 by unfold wrap64; omega]
def importB (x : S95) : Bool := inB x.f2 0 2 && (inB x.f3 1 4 && inB x.f4 0 (if x.f3 = 2 then 1000 else 0))
theorem import_is (x : S95) : impl_isImport.f x.f0 x.f1 x.f2 x.f3 x.f4 = some (importB x) := by
 unfold impl_isImport.f importB
 simp only [within_is, Option.bind_some]
 by_cases h : x.f3 = 2
 ·rw [if_pos h, if_pos h]
  cases inB x.f2 0 2 <;> cases inB x.f3 1 4 <;> simp
 rw [if_neg h, if_neg h]
 cases inB x.f2 0 2 <;> cases inB x.f3 1 4 <;> simp
def linkI (links : List S92) (a b : Int) : Int := idxB (joinB a b) links 0
def impBad (links : List S92) (x : S95) : Bool := decide (linkI links x.f0 x.f1 < 0) || !(importB x)
def filtBad (links : List S92) (x : S97) : Bool := decide (linkI links x.f0 x.f1 < 0) || (!(inB x.f2 0 x.f3) || decide (x.f3 > 15))
def namesO (k : Nat) (all : List ByteArray) : List ByteArray → Nat → Option Bool
 | [], _ => some true
 | y :: r, i => (impl_NameOK.f k y).bind fun t => if t = true then ((slices_Contains_string_string.f k (all.take i) y).bind fun u => if u = true then some false else namesO k all r (i + 1)) else some false
def linkB (n : Nat) (all : List S92) (i : Nat) (x : S92) : Bool := routerB n x.f0 && (routerB n x.f1 && (!(x.f0 == x.f1) && (!(decide (linkI all x.f0 x.f1 < (i : Int))) && inB x.f2 1 100)))
def linksB (n : Nat) (all : List S92) : List S92 → Nat → Bool
 | [], _ => true
 | x :: r, i => linkB n all i x && linksB n all r (i + 1)
def impl_isNet.f (k : Nat) (l0_0 : List ByteArray) (l0_1 : List S92) (l0_2 : List Int) (l0_3 : List Int) (l0_4 : List S95) (l0_5 : List S97) : Option Bool :=
 if inB l0_0.length 1 4 = true ∧ l0_1.length ≤ 6 ∧ l0_4.length ≤ 12 ∧ l0_5.length ≤ 6 then
  (namesO k l0_0 l0_0 0).bind fun t => if t = true then
   if linksB l0_0.length l0_1 l0_1 0 = true then
    if l0_4.any (impBad l0_1) = true then some false else
    if l0_5.any (filtBad l0_1) = true then some false else
    (impl_areRouters.f k l0_0 l0_1 l0_2 l0_3 l0_4 l0_5 l0_2).bind fun a => if a = true then ((impl_areRouters.f k l0_0 l0_1 l0_2 l0_3 l0_4 l0_5 l0_3).bind fun b => some (b && decide (l0_3.length ≤ 2))) else some false
   else some false
  else some false
 else some false
set_option maxHeartbeats 1600000 in
set_option maxRecDepth 100000 in
theorem imp_fn (A0_0 : Option Addr) (c0_0 : Nat) (l0_0 : List ByteArray) (A0_1 : Option Addr) (c0_1 : Nat) (l0_1 : List S92) (A0_2 : Option Addr) (c0_2 : Nat) (l0_2 : List Int) (A0_3 : Option Addr) (c0_3 : Nat) (l0_3 : List Int) (A0_4 : Option Addr) (c0_4 : Nat) (l0_4 : List S95) (A0_5 : Option Addr) (c0_5 : Nat) (l0_5 : List S97) (w : World) (HN : Aside0 (Kd.C Kd.string w A0_0 l0_0.length l0_0 ∧ l0_0.length ≤ c0_0 ∧ Kd.C k92 w A0_1 l0_1.length l0_1 ∧ l0_1.length ≤ c0_1 ∧ Kd.C (Kd.int .i64) w A0_2 l0_2.length l0_2 ∧ l0_2.length ≤ c0_2 ∧ Kd.C (Kd.int .i64) w A0_3 l0_3.length l0_3 ∧ l0_3.length ≤ c0_3 ∧ Kd.C k95 w A0_4 l0_4.length l0_4 ∧ l0_4.length ≤ c0_4 ∧ Kd.C k97 w A0_5 l0_5.length l0_5 ∧ l0_5.length ≤ c0_5)) (gn : Nat) (x : S95) (W : World) (hb : Below w.heap.size w W) (hn : W.heap[gn]? = some (.cells #[.slice A0_0 l0_0.length c0_0, .slice A0_1 l0_1.length c0_1, .slice A0_2 l0_2.length c0_2, .slice A0_3 l0_3.length c0_3, .slice A0_4 l0_4.length c0_4, .slice A0_5 l0_5.length c0_5] 36 (0, 0))) :
  Calls Tryd.prog 43 #[.agg #[.int .i64 x.f0, .int .i64 x.f1, .int .i64 x.f2, .int .i64 x.f3, .int .i64 x.f4], .pointer (some ⟨gn, 0, none⟩)] W fun e W' => e = .returned (.bool (impBad l0_1 x)) ∧ Below W.heap.size W W' := by
 have hu95 := Tryd.underlying65
 have hu38 := Tryd.underlying36
 have BN := aM hn
 have HB := aM (Below.refl W.heap.size W)
 have HW := aM hb
 have hlk := fun (V : World) (hV : Below w.heap.size w V) => impl_linkOf.calls A0_0 c0_0 l0_0 A0_1 c0_1 l0_1 A0_2 c0_2 l0_2 A0_3 c0_3 l0_3 A0_4 c0_4 l0_4 A0_5 c0_5 l0_5 x.f0 x.f1 (linkI l0_1 x.f0 x.f1) V (Kd.C_below HN.out.1 hV) HN.out.2.1 (Kd.C_below HN.out.2.2.1 hV) HN.out.2.2.2.1 (Kd.C_below HN.out.2.2.2.2.1 hV) HN.out.2.2.2.2.2.1 (Kd.C_below HN.out.2.2.2.2.2.2.1 hV) HN.out.2.2.2.2.2.2.2.1 (Kd.C_below HN.out.2.2.2.2.2.2.2.2.1 hV) HN.out.2.2.2.2.2.2.2.2.2.1 (Kd.C_below HN.out.2.2.2.2.2.2.2.2.2.2.1 hV) HN.out.2.2.2.2.2.2.2.2.2.2.2 rfl
 have him := fun (V : World) => impl_isImport.calls x.f0 x.f1 x.f2 x.f3 x.f4 _ V (import_is x)
 unfold impBad
 obtain ⟨x0, x1, x2, x3, x4⟩ := x
 dsimp only at hlk him ⊢
 have HLK := aM hlk
 have H2 := aM him
 clear hlk him hn hb
 generalize linkI l0_1 x0 x1 = lk at HLK ⊢
 generalize importB ⟨x0, x1, x2, x3, x4⟩ = ib at H2 ⊢
 by_cases hl : lk < 0
 ·have hl2 : decide (lk < 0) = true := decide_eq_true hl
  rw [hl2, Bool.true_or]
  go_enter Tryd.func43, Tryd.ntmps43
  go_wp2_with (first | ((with_reducible refine gate_dst (N := 2) rfl ?_); refine box_event rfl (N := 2) rfl (cs := #[.int .i64 x0, .int .i64 x1, .int .i64 x2, .int .i64 x3, .int .i64 x4]) (t := 65) (by go_simp; done) ?_; intro gx hgx wx hbox hbb; have HX := aM hbox; have hbs := hbb; replace HB := aM (HB.out.trans (hbs.mono HB.out.size)); replace BN := aM (blk_below BN.out hbs); clear hbb hbs hbox hgx; obtain ⟨hn0, hn1, hn2, hn3, hn4, hn5⟩ := swc6 BN.out; obtain ⟨hx0, hx1, hx2, hx3, hx4⟩ := swc5 HX.out) | (go_at_call 41; (with_reducible refine (HLK.out _ (HW.out.trans (HB.out.mono HW.out.size))).mono ?_); rintro e wl ⟨rfl, hb⟩; clear hn0 hn1 hn2 hn3 hn4 hn5; clear hx0 hx1 hx2 hx3 hx4; replace HB := aB HB hb; replace BN := aK BN hb; replace HX := aK HX hb; clear hb; obtain ⟨hn0, hn1, hn2, hn3, hn4, hn5⟩ := swc6 BN.out; obtain ⟨hx0, hx1, hx2, hx3, hx4⟩ := swc5 HX.out))
  go_ret
  exact ⟨rfl, HB.out⟩
 have hl2 : decide (lk < 0) = false := decide_eq_false hl
 rw [hl2, Bool.false_or]
 cases ib with
 | true =>
  go_enter Tryd.func43, Tryd.ntmps43
  go_wp2_with (first | ((with_reducible refine gate_dst (N := 2) rfl ?_); refine box_event rfl (N := 2) rfl (cs := #[.int .i64 x0, .int .i64 x1, .int .i64 x2, .int .i64 x3, .int .i64 x4]) (t := 65) (by go_simp; done) ?_; intro gx hgx wx hbox hbb; have HX := aM hbox; have hbs := hbb; replace HB := aM (HB.out.trans (hbs.mono HB.out.size)); replace BN := aM (blk_below BN.out hbs); clear hbb hbs hbox hgx; obtain ⟨hn0, hn1, hn2, hn3, hn4, hn5⟩ := swc6 BN.out; obtain ⟨hx0, hx1, hx2, hx3, hx4⟩ := swc5 HX.out) | (go_at_call 41; (with_reducible refine (HLK.out _ (HW.out.trans (HB.out.mono HW.out.size))).mono ?_); rintro e wl ⟨rfl, hb⟩; clear hn0 hn1 hn2 hn3 hn4 hn5; clear hx0 hx1 hx2 hx3 hx4; replace HB := aB HB hb; replace BN := aK BN hb; replace HX := aK HX hb; clear hb; obtain ⟨hn0, hn1, hn2, hn3, hn4, hn5⟩ := swc6 BN.out; obtain ⟨hx0, hx1, hx2, hx3, hx4⟩ := swc5 HX.out) | (go_at_call 44; (with_reducible refine (H2.out _).mono ?_); rintro e wi ⟨rfl, hb⟩; clear hn0 hn1 hn2 hn3 hn4 hn5; clear hx0 hx1 hx2 hx3 hx4; replace HB := aB HB hb; clear hb))
  go_ret
  exact ⟨rfl, HB.out⟩
 | false =>
  go_enter Tryd.func43, Tryd.ntmps43
  go_wp2_with (first | ((with_reducible refine gate_dst (N := 2) rfl ?_); refine box_event rfl (N := 2) rfl (cs := #[.int .i64 x0, .int .i64 x1, .int .i64 x2, .int .i64 x3, .int .i64 x4]) (t := 65) (by go_simp; done) ?_; intro gx hgx wx hbox hbb; have HX := aM hbox; have hbs := hbb; replace HB := aM (HB.out.trans (hbs.mono HB.out.size)); replace BN := aM (blk_below BN.out hbs); clear hbb hbs hbox hgx; obtain ⟨hn0, hn1, hn2, hn3, hn4, hn5⟩ := swc6 BN.out; obtain ⟨hx0, hx1, hx2, hx3, hx4⟩ := swc5 HX.out) | (go_at_call 41; (with_reducible refine (HLK.out _ (HW.out.trans (HB.out.mono HW.out.size))).mono ?_); rintro e wl ⟨rfl, hb⟩; clear hn0 hn1 hn2 hn3 hn4 hn5; clear hx0 hx1 hx2 hx3 hx4; replace HB := aB HB hb; replace BN := aK BN hb; replace HX := aK HX hb; clear hb; obtain ⟨hn0, hn1, hn2, hn3, hn4, hn5⟩ := swc6 BN.out; obtain ⟨hx0, hx1, hx2, hx3, hx4⟩ := swc5 HX.out) | (go_at_call 44; (with_reducible refine (H2.out _).mono ?_); rintro e wi ⟨rfl, hb⟩; clear hn0 hn1 hn2 hn3 hn4 hn5; clear hx0 hx1 hx2 hx3 hx4; replace HB := aB HB hb; clear hb))
  go_ret
  exact ⟨rfl, HB.out⟩
set_option maxHeartbeats 1600000 in
set_option maxRecDepth 100000 in
theorem filt_fn (A0_0 : Option Addr) (c0_0 : Nat) (l0_0 : List ByteArray) (A0_1 : Option Addr) (c0_1 : Nat) (l0_1 : List S92) (A0_2 : Option Addr) (c0_2 : Nat) (l0_2 : List Int) (A0_3 : Option Addr) (c0_3 : Nat) (l0_3 : List Int) (A0_4 : Option Addr) (c0_4 : Nat) (l0_4 : List S95) (A0_5 : Option Addr) (c0_5 : Nat) (l0_5 : List S97) (w : World) (HN : Aside0 (Kd.C Kd.string w A0_0 l0_0.length l0_0 ∧ l0_0.length ≤ c0_0 ∧ Kd.C k92 w A0_1 l0_1.length l0_1 ∧ l0_1.length ≤ c0_1 ∧ Kd.C (Kd.int .i64) w A0_2 l0_2.length l0_2 ∧ l0_2.length ≤ c0_2 ∧ Kd.C (Kd.int .i64) w A0_3 l0_3.length l0_3 ∧ l0_3.length ≤ c0_3 ∧ Kd.C k95 w A0_4 l0_4.length l0_4 ∧ l0_4.length ≤ c0_4 ∧ Kd.C k97 w A0_5 l0_5.length l0_5 ∧ l0_5.length ≤ c0_5)) (gn : Nat) (x : S97) (W : World) (hb : Below w.heap.size w W) (hn : W.heap[gn]? = some (.cells #[.slice A0_0 l0_0.length c0_0, .slice A0_1 l0_1.length c0_1, .slice A0_2 l0_2.length c0_2, .slice A0_3 l0_3.length c0_3, .slice A0_4 l0_4.length c0_4, .slice A0_5 l0_5.length c0_5] 36 (0, 0))) :
  Calls Tryd.prog 46 #[.agg #[.int .i64 x.f0, .int .i64 x.f1, .int .i64 x.f2, .int .i64 x.f3], .pointer (some ⟨gn, 0, none⟩)] W fun e W' => e = .returned (.bool (filtBad l0_1 x)) ∧ Below W.heap.size W W' := by
 have hu97 := Tryd.underlying67
 have hu38 := Tryd.underlying36
 have BN := aM hn
 have HB := aM (Below.refl W.heap.size W)
 have HW := aM hb
 have hlk := fun (V : World) (hV : Below w.heap.size w V) => impl_linkOf.calls A0_0 c0_0 l0_0 A0_1 c0_1 l0_1 A0_2 c0_2 l0_2 A0_3 c0_3 l0_3 A0_4 c0_4 l0_4 A0_5 c0_5 l0_5 x.f0 x.f1 (linkI l0_1 x.f0 x.f1) V (Kd.C_below HN.out.1 hV) HN.out.2.1 (Kd.C_below HN.out.2.2.1 hV) HN.out.2.2.2.1 (Kd.C_below HN.out.2.2.2.2.1 hV) HN.out.2.2.2.2.2.1 (Kd.C_below HN.out.2.2.2.2.2.2.1 hV) HN.out.2.2.2.2.2.2.2.1 (Kd.C_below HN.out.2.2.2.2.2.2.2.2.1 hV) HN.out.2.2.2.2.2.2.2.2.2.1 (Kd.C_below HN.out.2.2.2.2.2.2.2.2.2.2.1 hV) HN.out.2.2.2.2.2.2.2.2.2.2.2 rfl
 have hwi := fun (V : World) => impl_within.calls x.f2 0 x.f3 _ V (within_is x.f2 0 x.f3)
 unfold filtBad
 obtain ⟨x0, x1, x2, x3⟩ := x
 dsimp only at hlk hwi ⊢
 have HLK := aM hlk
 have H2 := aM hwi
 clear hlk hwi hn hb
 generalize linkI l0_1 x0 x1 = lk at HLK ⊢
 generalize inB x2 0 x3 = ib at H2 ⊢
 by_cases hl : lk < 0
 ·have hl2 : decide (lk < 0) = true := decide_eq_true hl
  rw [hl2, Bool.true_or]
  go_enter Tryd.func46, Tryd.ntmps46
  go_wp2_with (first | ((with_reducible refine gate_dst (N := 2) rfl ?_); refine box_event rfl (N := 2) rfl (cs := #[.int .i64 x0, .int .i64 x1, .int .i64 x2, .int .i64 x3]) (t := 67) (by go_simp; done) ?_; intro gx hgx wx hbox hbb; have HX := aM hbox; have hbs := hbb; replace HB := aM (HB.out.trans (hbs.mono HB.out.size)); replace BN := aM (blk_below BN.out hbs); clear hbb hbs hbox hgx; obtain ⟨hn0, hn1, hn2, hn3, hn4, hn5⟩ := swc6 BN.out; obtain ⟨hx0, hx1, hx2, hx3⟩ := swc4 HX.out) | (go_at_call 41; (with_reducible refine (HLK.out _ (HW.out.trans (HB.out.mono HW.out.size))).mono ?_); rintro e wl ⟨rfl, hb⟩; clear hn0 hn1 hn2 hn3 hn4 hn5; clear hx0 hx1 hx2 hx3; replace HB := aB HB hb; replace BN := aK BN hb; replace HX := aK HX hb; clear hb; obtain ⟨hn0, hn1, hn2, hn3, hn4, hn5⟩ := swc6 BN.out; obtain ⟨hx0, hx1, hx2, hx3⟩ := swc4 HX.out))
  go_ret
  exact ⟨rfl, HB.out⟩
 have hl2 : decide (lk < 0) = false := decide_eq_false hl
 rw [hl2, Bool.false_or]
 cases ib with
 | false =>
  go_enter Tryd.func46, Tryd.ntmps46
  go_wp2_with (first | ((with_reducible refine gate_dst (N := 2) rfl ?_); refine box_event rfl (N := 2) rfl (cs := #[.int .i64 x0, .int .i64 x1, .int .i64 x2, .int .i64 x3]) (t := 67) (by go_simp; done) ?_; intro gx hgx wx hbox hbb; have HX := aM hbox; have hbs := hbb; replace HB := aM (HB.out.trans (hbs.mono HB.out.size)); replace BN := aM (blk_below BN.out hbs); clear hbb hbs hbox hgx; obtain ⟨hn0, hn1, hn2, hn3, hn4, hn5⟩ := swc6 BN.out; obtain ⟨hx0, hx1, hx2, hx3⟩ := swc4 HX.out) | (go_at_call 41; (with_reducible refine (HLK.out _ (HW.out.trans (HB.out.mono HW.out.size))).mono ?_); rintro e wl ⟨rfl, hb⟩; clear hn0 hn1 hn2 hn3 hn4 hn5; clear hx0 hx1 hx2 hx3; replace HB := aB HB hb; replace BN := aK BN hb; replace HX := aK HX hb; clear hb; obtain ⟨hn0, hn1, hn2, hn3, hn4, hn5⟩ := swc6 BN.out; obtain ⟨hx0, hx1, hx2, hx3⟩ := swc4 HX.out) | (go_at_call 37; (with_reducible refine (H2.out _).mono ?_); rintro e wi ⟨rfl, hd⟩; have hb := hd.below; clear hd; clear hn0 hn1 hn2 hn3 hn4 hn5; clear hx0 hx1 hx2 hx3; replace HB := aB HB hb; replace HX := aK HX hb; clear hb; obtain ⟨hx0, hx1, hx2, hx3⟩ := swc4 HX.out))
  go_ret
  exact ⟨rfl, HB.out⟩
 | true =>
  by_cases h3 : x3 > 15
  ·have h32 : decide (x3 > 15) = true := decide_eq_true h3
   rw [h32]
   go_enter Tryd.func46, Tryd.ntmps46
   go_wp2_with (first | ((with_reducible refine gate_dst (N := 2) rfl ?_); refine box_event rfl (N := 2) rfl (cs := #[.int .i64 x0, .int .i64 x1, .int .i64 x2, .int .i64 x3]) (t := 67) (by go_simp; done) ?_; intro gx hgx wx hbox hbb; have HX := aM hbox; have hbs := hbb; replace HB := aM (HB.out.trans (hbs.mono HB.out.size)); replace BN := aM (blk_below BN.out hbs); clear hbb hbs hbox hgx; obtain ⟨hn0, hn1, hn2, hn3, hn4, hn5⟩ := swc6 BN.out; obtain ⟨hx0, hx1, hx2, hx3⟩ := swc4 HX.out) | (go_at_call 41; (with_reducible refine (HLK.out _ (HW.out.trans (HB.out.mono HW.out.size))).mono ?_); rintro e wl ⟨rfl, hb⟩; clear hn0 hn1 hn2 hn3 hn4 hn5; clear hx0 hx1 hx2 hx3; replace HB := aB HB hb; replace BN := aK BN hb; replace HX := aK HX hb; clear hb; obtain ⟨hn0, hn1, hn2, hn3, hn4, hn5⟩ := swc6 BN.out; obtain ⟨hx0, hx1, hx2, hx3⟩ := swc4 HX.out) | (go_at_call 37; (with_reducible refine (H2.out _).mono ?_); rintro e wi ⟨rfl, hd⟩; have hb := hd.below; clear hd; clear hn0 hn1 hn2 hn3 hn4 hn5; clear hx0 hx1 hx2 hx3; replace HB := aB HB hb; replace HX := aK HX hb; clear hb; obtain ⟨hx0, hx1, hx2, hx3⟩ := swc4 HX.out))
   go_ret
   exact ⟨rfl, HB.out⟩
  have h32 : decide (x3 > 15) = false := decide_eq_false h3
  rw [h32]
  go_enter Tryd.func46, Tryd.ntmps46
  go_wp2_with (first | ((with_reducible refine gate_dst (N := 2) rfl ?_); refine box_event rfl (N := 2) rfl (cs := #[.int .i64 x0, .int .i64 x1, .int .i64 x2, .int .i64 x3]) (t := 67) (by go_simp; done) ?_; intro gx hgx wx hbox hbb; have HX := aM hbox; have hbs := hbb; replace HB := aM (HB.out.trans (hbs.mono HB.out.size)); replace BN := aM (blk_below BN.out hbs); clear hbb hbs hbox hgx; obtain ⟨hn0, hn1, hn2, hn3, hn4, hn5⟩ := swc6 BN.out; obtain ⟨hx0, hx1, hx2, hx3⟩ := swc4 HX.out) | (go_at_call 41; (with_reducible refine (HLK.out _ (HW.out.trans (HB.out.mono HW.out.size))).mono ?_); rintro e wl ⟨rfl, hb⟩; clear hn0 hn1 hn2 hn3 hn4 hn5; clear hx0 hx1 hx2 hx3; replace HB := aB HB hb; replace BN := aK BN hb; replace HX := aK HX hb; clear hb; obtain ⟨hn0, hn1, hn2, hn3, hn4, hn5⟩ := swc6 BN.out; obtain ⟨hx0, hx1, hx2, hx3⟩ := swc4 HX.out) | (go_at_call 37; (with_reducible refine (H2.out _).mono ?_); rintro e wi ⟨rfl, hd⟩; have hb := hd.below; clear hd; clear hn0 hn1 hn2 hn3 hn4 hn5; clear hx0 hx1 hx2 hx3; replace HB := aB HB hb; replace HX := aK HX hb; clear hb; obtain ⟨hx0, hx1, hx2, hx3⟩ := swc4 HX.out))
  go_ret
  exact ⟨rfl, HB.out⟩
theorem box_put92 {W : World} {g : Nat} {u0 u1 u2 a b v : Value} (hb : W.heap[g]? = some (.cells #[u0, u1, u2] 62 (0, 0))) : (((W.setCell ⟨g, 0, none⟩ a).setCell ⟨g, 1, none⟩ b).setCell ⟨g, 2, none⟩ v).heap[g]? = some (.cells #[a, b, v] 62 (0, 0)) ∧ Kept W (((W.setCell ⟨g, 0, none⟩ a).setCell ⟨g, 1, none⟩ b).setCell ⟨g, 2, none⟩ v) (fun k => k = g) ∧ ∀ w0 : World, Below w0.heap.size w0 W → w0.heap.size ≤ g → Below w0.heap.size w0 (((W.setCell ⟨g, 0, none⟩ a).setCell ⟨g, 1, none⟩ b).setCell ⟨g, 2, none⟩ v) := by
 have hs : ∀ (V : World) (i : Nat) (u : Value), Kept V (V.setCell ⟨g, i, none⟩ u) (fun k => k = g) := fun V i u => Kept.setCell (S := fun k => k = g) (p := ⟨g, i, none⟩) (Kept.refl V _) (.inl rfl) u
 exact ⟨blk_put (cs := #[a, b, u2]) (blk_put (cs := #[a, u1, u2]) (blk_put hb 0 a rfl) 1 b rfl) 2 v rfl, ((hs _ 0 _).then_ (hs _ 1 _) (fun _ h => .inl h)).then_ (hs _ 2 _) (fun _ h => .inl h), fun w0 h1 h2 => below_set (below_set (below_set h1 h2) h2) h2⟩
set_option maxHeartbeats 6400000 in
set_option maxRecDepth 100000 in
theorem impl_isNet.calls (k : Nat) (A0_0 : Option Addr) (c0_0 : Nat) (l0_0 : List ByteArray) (A0_1 : Option Addr) (c0_1 : Nat) (l0_1 : List S92) (A0_2 : Option Addr) (c0_2 : Nat) (l0_2 : List Int) (A0_3 : Option Addr) (c0_3 : Nat) (l0_3 : List Int) (A0_4 : Option Addr) (c0_4 : Nat) (l0_4 : List S95) (A0_5 : Option Addr) (c0_5 : Nat) (l0_5 : List S97) (r : Bool) (w : World) (hr0_0 : Kd.C Kd.string w A0_0 l0_0.length l0_0) (hc0_0 : l0_0.length ≤ c0_0) (hr0_1 : Kd.C k92 w A0_1 l0_1.length l0_1) (hc0_1 : l0_1.length ≤ c0_1) (hr0_2 : Kd.C (Kd.int .i64) w A0_2 l0_2.length l0_2) (hc0_2 : l0_2.length ≤ c0_2) (hr0_3 : Kd.C (Kd.int .i64) w A0_3 l0_3.length l0_3) (hc0_3 : l0_3.length ≤ c0_3) (hr0_4 : Kd.C k95 w A0_4 l0_4.length l0_4) (hc0_4 : l0_4.length ≤ c0_4) (hr0_5 : Kd.C k97 w A0_5 l0_5.length l0_5) (hc0_5 : l0_5.length ≤ c0_5) (h : impl_isNet.f k l0_0 l0_1 l0_2 l0_3 l0_4 l0_5 = some r) :
  Calls Tryd.prog 21 #[.agg #[.slice A0_0 l0_0.length c0_0, .slice A0_1 l0_1.length c0_1, .slice A0_2 l0_2.length c0_2, .slice A0_3 l0_3.length c0_3, .slice A0_4 l0_4.length c0_4, .slice A0_5 l0_5.length c0_5]] w fun e w' => e = .returned (.bool r) ∧ Below w.heap.size w w' := by
 have hu38 := Tryd.underlying36
 have hu92 := Tryd.underlying62
 have HN : Aside0 (Kd.C Kd.string w A0_0 l0_0.length l0_0 ∧ l0_0.length ≤ c0_0 ∧ Kd.C k92 w A0_1 l0_1.length l0_1 ∧ l0_1.length ≤ c0_1 ∧ Kd.C (Kd.int .i64) w A0_2 l0_2.length l0_2 ∧ l0_2.length ≤ c0_2 ∧ Kd.C (Kd.int .i64) w A0_3 l0_3.length l0_3 ∧ l0_3.length ≤ c0_3 ∧ Kd.C k95 w A0_4 l0_4.length l0_4 ∧ l0_4.length ≤ c0_4 ∧ Kd.C k97 w A0_5 l0_5.length l0_5 ∧ l0_5.length ≤ c0_5) := ⟨hr0_0, hc0_0, hr0_1, hc0_1, hr0_2, hc0_2, hr0_3, hc0_3, hr0_4, hc0_4, hr0_5, hc0_5⟩
 have hm0 : l0_0.length ≤ 9223372036854775807 := Kd.C_max hr0_0
 have hm1 : l0_1.length ≤ 9223372036854775807 := Kd.C_max hr0_1
 have HM := aM (And.intro hm0 hm1)
 clear hr0_0 hc0_0 hr0_1 hc0_1 hr0_2 hc0_2 hr0_3 hc0_3 hr0_4 hc0_4 hr0_5 hc0_5 hm0 hm1
 have HB := aM (Below.refl w.heap.size w)
 unfold impl_isNet.f at h
 by_cases hg0 : inB l0_0.length 1 4 = true
 rotate_left
 ·have hg0b : inB l0_0.length 1 4 = false := Bool.eq_false_iff.2 hg0
  rw [if_neg (fun q => hg0 q.1)] at h
  obtain rfl := Option.some.inj h
  go_enter Tryd.func21, Tryd.ntmps21
  go_wp2_with (first | ((with_reducible refine gate_dst (N := 1) rfl ?_); refine box_event rfl (N := 1) rfl (cs := #[.slice A0_0 l0_0.length c0_0, .slice A0_1 l0_1.length c0_1, .slice A0_2 l0_2.length c0_2, .slice A0_3 l0_3.length c0_3, .slice A0_4 l0_4.length c0_4, .slice A0_5 l0_5.length c0_5]) (t := 36) (by go_simp; done) ?_; intro gn hgn wn hbox hbb; have BN := aM (And.intro hbox (show w.heap.size ≤ gn by rw [hgn]; exact HB.out.size)); replace HB := aM (HB.out.trans (hbb.mono HB.out.size)); clear hbb hbox hgn; obtain ⟨hn0, hn1, hn2, hn3, hn4, hn5⟩ := swc6 BN.out.1) | (go_at_call 37; (with_reducible refine (impl_within.calls (l0_0.length : Int) 1 4 _ _ (within_is _ 1 4)).mono ?_); rintro e wi ⟨rfl, hd⟩; have hb := hd.below; clear hd; clear hn0 hn1 hn2 hn3 hn4 hn5; replace HB := aB HB hb; replace BN := aN BN hb; clear hb; obtain ⟨hn0, hn1, hn2, hn3, hn4, hn5⟩ := swc6 BN.out.1))
  go_ret
  exact ⟨rfl, HB.out⟩
 by_cases hg1 : l0_1.length ≤ 6
 rotate_left
 ·have hz1 : decide ((l0_1.length : Int) > 6) = true := decide_eq_true (by omega)
  rw [if_neg (fun q => hg1 q.2.1)] at h
  obtain rfl := Option.some.inj h
  go_enter Tryd.func21, Tryd.ntmps21
  go_wp2_with (first | ((with_reducible refine gate_dst (N := 1) rfl ?_); refine box_event rfl (N := 1) rfl (cs := #[.slice A0_0 l0_0.length c0_0, .slice A0_1 l0_1.length c0_1, .slice A0_2 l0_2.length c0_2, .slice A0_3 l0_3.length c0_3, .slice A0_4 l0_4.length c0_4, .slice A0_5 l0_5.length c0_5]) (t := 36) (by go_simp; done) ?_; intro gn hgn wn hbox hbb; have BN := aM (And.intro hbox (show w.heap.size ≤ gn by rw [hgn]; exact HB.out.size)); replace HB := aM (HB.out.trans (hbb.mono HB.out.size)); clear hbb hbox hgn; obtain ⟨hn0, hn1, hn2, hn3, hn4, hn5⟩ := swc6 BN.out.1) | (go_at_call 37; (with_reducible refine (impl_within.calls (l0_0.length : Int) 1 4 _ _ (within_is _ 1 4)).mono ?_); rintro e wi ⟨rfl, hd⟩; have hb := hd.below; clear hd; clear hn0 hn1 hn2 hn3 hn4 hn5; replace HB := aB HB hb; replace BN := aN BN hb; clear hb; obtain ⟨hn0, hn1, hn2, hn3, hn4, hn5⟩ := swc6 BN.out.1))
  go_ret
  exact ⟨rfl, HB.out⟩
 have hz1 : decide ((l0_1.length : Int) > 6) = false := decide_eq_false (by omega)
 by_cases hg4 : l0_4.length ≤ 12
 rotate_left
 ·have hz4 : decide ((l0_4.length : Int) > 12) = true := decide_eq_true (by omega)
  rw [if_neg (fun q => hg4 q.2.2.1)] at h
  obtain rfl := Option.some.inj h
  go_enter Tryd.func21, Tryd.ntmps21
  go_wp2_with (first | ((with_reducible refine gate_dst (N := 1) rfl ?_); refine box_event rfl (N := 1) rfl (cs := #[.slice A0_0 l0_0.length c0_0, .slice A0_1 l0_1.length c0_1, .slice A0_2 l0_2.length c0_2, .slice A0_3 l0_3.length c0_3, .slice A0_4 l0_4.length c0_4, .slice A0_5 l0_5.length c0_5]) (t := 36) (by go_simp; done) ?_; intro gn hgn wn hbox hbb; have BN := aM (And.intro hbox (show w.heap.size ≤ gn by rw [hgn]; exact HB.out.size)); replace HB := aM (HB.out.trans (hbb.mono HB.out.size)); clear hbb hbox hgn; obtain ⟨hn0, hn1, hn2, hn3, hn4, hn5⟩ := swc6 BN.out.1) | (go_at_call 37; (with_reducible refine (impl_within.calls (l0_0.length : Int) 1 4 _ _ (within_is _ 1 4)).mono ?_); rintro e wi ⟨rfl, hd⟩; have hb := hd.below; clear hd; clear hn0 hn1 hn2 hn3 hn4 hn5; replace HB := aB HB hb; replace BN := aN BN hb; clear hb; obtain ⟨hn0, hn1, hn2, hn3, hn4, hn5⟩ := swc6 BN.out.1))
  go_ret
  exact ⟨rfl, HB.out⟩
 have hz4 : decide ((l0_4.length : Int) > 12) = false := decide_eq_false (by omega)
 by_cases hg5 : l0_5.length ≤ 6
 rotate_left
 ·have hz5 : decide ((l0_5.length : Int) > 6) = true := decide_eq_true (by omega)
  rw [if_neg (fun q => hg5 q.2.2.2)] at h
  obtain rfl := Option.some.inj h
  go_enter Tryd.func21, Tryd.ntmps21
  go_wp2_with (first | ((with_reducible refine gate_dst (N := 1) rfl ?_); refine box_event rfl (N := 1) rfl (cs := #[.slice A0_0 l0_0.length c0_0, .slice A0_1 l0_1.length c0_1, .slice A0_2 l0_2.length c0_2, .slice A0_3 l0_3.length c0_3, .slice A0_4 l0_4.length c0_4, .slice A0_5 l0_5.length c0_5]) (t := 36) (by go_simp; done) ?_; intro gn hgn wn hbox hbb; have BN := aM (And.intro hbox (show w.heap.size ≤ gn by rw [hgn]; exact HB.out.size)); replace HB := aM (HB.out.trans (hbb.mono HB.out.size)); clear hbb hbox hgn; obtain ⟨hn0, hn1, hn2, hn3, hn4, hn5⟩ := swc6 BN.out.1) | (go_at_call 37; (with_reducible refine (impl_within.calls (l0_0.length : Int) 1 4 _ _ (within_is _ 1 4)).mono ?_); rintro e wi ⟨rfl, hd⟩; have hb := hd.below; clear hd; clear hn0 hn1 hn2 hn3 hn4 hn5; replace HB := aB HB hb; replace BN := aN BN hb; clear hb; obtain ⟨hn0, hn1, hn2, hn3, hn4, hn5⟩ := swc6 BN.out.1))
  go_ret
  exact ⟨rfl, HB.out⟩
 have hz5 : decide ((l0_5.length : Int) > 6) = false := decide_eq_false (by omega)
 rw [if_pos ⟨hg0, hg1, hg4, hg5⟩] at h
 clear hg1 hg4 hg5
 replace h := Option.bind_eq_some_iff.1 h
 obtain ⟨t, hnm, h⟩ := h
 have H := aM h
 have HNM : Aside0 (namesO k l0_0 (l0_0.drop 0) 0 = some t) := ⟨by rw [List.drop_zero]; exact hnm⟩
 clear h hnm
 go_enter Tryd.func21, Tryd.ntmps21
 go_wp2_with (first | ((with_reducible refine gate_dst (N := 1) rfl ?_); refine box_event rfl (N := 1) rfl (cs := #[.slice A0_0 l0_0.length c0_0, .slice A0_1 l0_1.length c0_1, .slice A0_2 l0_2.length c0_2, .slice A0_3 l0_3.length c0_3, .slice A0_4 l0_4.length c0_4, .slice A0_5 l0_5.length c0_5]) (t := 36) (by go_simp; done) ?_; intro gn hgn wn hbox hbb; have BN := aM (And.intro hbox (show w.heap.size ≤ gn by rw [hgn]; exact HB.out.size)); replace HB := aM (HB.out.trans (hbb.mono HB.out.size)); clear hbb hbox hgn; obtain ⟨hn0, hn1, hn2, hn3, hn4, hn5⟩ := swc6 BN.out.1) | (go_at_call 37; (with_reducible refine (impl_within.calls (l0_0.length : Int) 1 4 _ _ (within_is _ 1 4)).mono ?_); rintro e wi ⟨rfl, hd⟩; have hb := hd.below; clear hd; clear hn0 hn1 hn2 hn3 hn4 hn5; replace HB := aB HB hb; replace BN := aN BN hb; clear hb; obtain ⟨hn0, hn1, hn2, hn3, hn4, hn5⟩ := swc6 BN.out.1))
 clear hn0 hn1 hn2 hn3 hn4 hn5
 go_loopg [33] l0_0.length (fun gg s33 wr => ∃ kk : Nat, kk ≤ l0_0.length ∧ l0_0.length - kk ≤ gg ∧ s33 = .int .i64 kk ∧ Aside0 (Below w.heap.size w wr) ∧ Aside0 (wr.heap[gn]? = some (.cells #[.slice A0_0 l0_0.length c0_0, .slice A0_1 l0_1.length c0_1, .slice A0_2 l0_2.length c0_2, .slice A0_3 l0_3.length c0_3, .slice A0_4 l0_4.length c0_4, .slice A0_5 l0_5.length c0_5] 36 (0, 0)) ∧ w.heap.size ≤ gn) ∧ Aside0 (namesO k l0_0 (l0_0.drop kk) kk = some t))
 case atStart => exact ⟨0, Nat.zero_le _, by omega, rfl, HB, BN, HNM⟩
 clear HNM HB BN
 obtain ⟨kk, hkk, hg, rfl, HB, BN, HNM⟩ := hrel
 have HM0 := HM.out.1
 have hN := HNM.out
 clear HNM
 by_cases hlt : kk < l0_0.length
 ·have hltz : (kk : Int) < (l0_0.length : Int) := by omega
  have HKS := aM (Kd.C_take (m := kk) HN.out.1 hkk)
  have HTK : Aside0 ((l0_0.take kk).length ≤ c0_0) := ⟨by rw [List.length_take]; exact Nat.le_trans (Nat.min_le_right _ _) HN.out.2.1⟩
  have hkc : kk ≤ c0_0 := Nat.le_trans hkk HN.out.2.1
  have hkc2 : (kk : Int) ≤ (c0_0 : Int) := Int.ofNat_le.2 hkc
  have hkc0 : (0 : Int) ≤ (kk : Int) := Int.natCast_nonneg _
  obtain ⟨ad, ea, hx⟩ := Kd.at_string HN.out.1 (kk : Int) (by omega) (by omega)
  cases ea
  rw [Int.toNat_natCast] at hx
  replace hx := (HB.out.cell (World.block_lt_of_cell? w _ hx)).trans hx
  have hrd : rdOf ByteArray.empty l0_0 (kk : Int) = l0_0[kk] := by unfold rdOf; simp [List.getD, hlt]
  rw [hrd] at hx
  rw [List.drop_eq_getElem_cons hlt, namesO] at hN
  have ew : IntKind.i64.wrap ((kk : Int) + 1) = ((kk + 1 : Nat) : Int) := IntWalk.i64_in _ (by omega)
  clear hrd
  generalize l0_0[kk] = y at hN hx
  replace hN := Option.bind_eq_some_iff.1 hN
  obtain ⟨a, ha, hN⟩ := hN
  have HY := aM ha
  clear ha
  obtain ⟨hn0, hn1, hn2, hn3, hn4, hn5⟩ := swc6 BN.out.1
  cases a with
  | false =>
   rw [if_neg Bool.false_ne_true] at hN
   obtain rfl := Option.some.inj hN
   have h := H.out
   rw [if_neg Bool.false_ne_true] at h
   obtain rfl := Option.some.inj h
   clear h hN
   go_wp2_with ((go_at_call 38; (with_reducible refine (impl_NameOK.calls k y _ _ HY.out).mono ?_); rintro e wi ⟨rfl, hd⟩; have hb := hd.below; clear hd; clear hn0 hn1 hn2 hn3 hn4 hn5; replace HB := aB HB hb; replace BN := aN BN hb; clear hb; obtain ⟨hn0, hn1, hn2, hn3, hn4, hn5⟩ := swc6 BN.out.1))
   go_ret
   exact ⟨rfl, HB.out⟩
  | true =>
   rw [if_pos rfl] at hN
   replace hN := Option.bind_eq_some_iff.1 hN
   obtain ⟨u, hu, hN⟩ := hN
   have HCT : Aside0 (∀ V : World, Below w.heap.size w V → Calls Tryd.prog 39 #[.slice (some ad) kk c0_0, .string y] V fun e w' => e = .returned (.bool u) ∧ Drawn0 V w') := ⟨fun V hV => by
    have q := slices_Contains_string_string.calls k (some ad) c0_0 (l0_0.take kk) y _ V (Kd.C_below HKS.out hV) HTK.out hu
    rw [List.length_take, Nat.min_eq_left hkk] at q
    exact q⟩
   clear hu
   cases u with
   | true =>
    rw [if_pos rfl] at hN
    obtain rfl := Option.some.inj hN
    have h := H.out
    rw [if_neg Bool.false_ne_true] at h
    obtain rfl := Option.some.inj h
    clear h hN
    go_wp2_with (first | (go_at_call 38; (with_reducible refine (impl_NameOK.calls k y _ _ HY.out).mono ?_); rintro e wi ⟨rfl, hd⟩; have hb := hd.below; clear hd; clear hn0 hn1 hn2 hn3 hn4 hn5; replace HB := aB HB hb; replace BN := aN BN hb; clear hb; obtain ⟨hn0, hn1, hn2, hn3, hn4, hn5⟩ := swc6 BN.out.1) | (go_at_call 39; (with_reducible refine (HCT.out _ HB.out).mono ?_); rintro e wi ⟨rfl, hd⟩; have hb := hd.below; clear hd; clear hn0 hn1 hn2 hn3 hn4 hn5; replace HB := aB HB hb; replace BN := aN BN hb; clear hb; obtain ⟨hn0, hn1, hn2, hn3, hn4, hn5⟩ := swc6 BN.out.1))
    go_ret
    exact ⟨rfl, HB.out⟩
   | false =>
    rw [if_neg Bool.false_ne_true] at hN
    have HNM := aM hN
    clear hN
    go_wp2_with (first | (go_at_call 38; (with_reducible refine (impl_NameOK.calls k y _ _ HY.out).mono ?_); rintro e wi ⟨rfl, hd⟩; have hb := hd.below; clear hd; clear hn0 hn1 hn2 hn3 hn4 hn5; replace HB := aB HB hb; replace BN := aN BN hb; clear hb; obtain ⟨hn0, hn1, hn2, hn3, hn4, hn5⟩ := swc6 BN.out.1) | (go_at_call 39; (with_reducible refine (HCT.out _ HB.out).mono ?_); rintro e wi ⟨rfl, hd⟩; have hb := hd.below; clear hd; clear hn0 hn1 hn2 hn3 hn4 hn5; replace HB := aB HB hb; replace BN := aN BN hb; clear hb; obtain ⟨hn0, hn1, hn2, hn3, hn4, hn5⟩ := swc6 BN.out.1))
    go_roundg (l0_0.length - (kk + 1))
    case measure => omega
    case rel => exact ⟨kk + 1, by omega, by omega, by go_num, HB, BN, HNM⟩
 have hltz : ¬ (kk : Int) < (l0_0.length : Int) := by omega
 obtain rfl : kk = l0_0.length := by omega
 rw [List.drop_length, namesO] at hN
 obtain rfl := Option.some.inj hN
 have h := H.out
 rw [if_pos rfl] at h
 clear H hN
 obtain ⟨L, hL⟩ : ∃ L, linksB l0_0.length l0_1 l0_1 0 = L := ⟨_, rfl⟩
 rw [hL] at h
 have H := aM h
 have HL : Aside0 (linksB l0_0.length l0_1 (l0_1.drop 0) 0 = L) := ⟨by rw [List.drop_zero]; exact hL⟩
 clear h hL
 obtain ⟨hn0, hn1, hn2, hn3, hn4, hn5⟩ := swc6 BN.out.1
 go_wp2
 clear hn0 hn1 hn2 hn3 hn4 hn5
 go_loopg [53] l0_1.length (fun gg s53 wr => ∃ kk : Nat, kk ≤ l0_1.length ∧ l0_1.length - kk ≤ gg ∧ s53 = .int .i64 kk ∧ Aside0 (Below w.heap.size w wr) ∧ Aside0 (wr.heap[gn]? = some (.cells #[.slice A0_0 l0_0.length c0_0, .slice A0_1 l0_1.length c0_1, .slice A0_2 l0_2.length c0_2, .slice A0_3 l0_3.length c0_3, .slice A0_4 l0_4.length c0_4, .slice A0_5 l0_5.length c0_5] 36 (0, 0)) ∧ w.heap.size ≤ gn) ∧ Aside0 (linksB l0_0.length l0_1 (l0_1.drop kk) kk = L))
 case atStart => exact ⟨0, Nat.zero_le _, by omega, rfl, HB, BN, HL⟩
 clear HL HB BN
 obtain ⟨kk, hkk, hg, rfl, HB, BN, HL⟩ := hrel
 have HM1 := HM.out.2
 have hN := HL.out
 clear HL
 by_cases hlt : kk < l0_1.length
 rotate_left
 ·have hltz : ¬ (kk : Int) < (l0_1.length : Int) := by omega
  obtain rfl : kk = l0_1.length := by omega
  rw [List.drop_length, linksB] at hN
  subst hN
  have h := H.out
  rw [if_pos rfl] at h
  clear H
  have HI : Aside0 (∀ V : World, Below w.heap.size w V → V.heap[gn]? = some (.cells #[.slice A0_0 l0_0.length c0_0, .slice A0_1 l0_1.length c0_1, .slice A0_2 l0_2.length c0_2, .slice A0_3 l0_3.length c0_3, .slice A0_4 l0_4.length c0_4, .slice A0_5 l0_5.length c0_5] 36 (0, 0)) → Calls Tryd.prog 42 #[.slice A0_4 l0_4.length c0_4, .func (.func 43) #[] #[.pointer (some ⟨gn, 0, none⟩)]] V fun e W' => e = .returned (.bool (l0_4.any (impBad l0_1))) ∧ Below V.heap.size V W') := ⟨fun V hV hb => any95 (impBad l0_1) l0_4 43 #[.pointer (some ⟨gn, 0, none⟩)] (enters_of Tryd.func43 (by kernel_rfl) rfl) A0_4 c0_4 V (Kd.C_below HN.out.2.2.2.2.2.2.2.2.1 hV) (fun x W hW => imp_fn A0_0 c0_0 l0_0 A0_1 c0_1 l0_1 A0_2 c0_2 l0_2 A0_3 c0_3 l0_3 A0_4 c0_4 l0_4 A0_5 c0_5 l0_5 w HN gn x W (hV.trans (hW.mono hV.size)) (blk_below hb hW))⟩
  have HF : Aside0 (∀ V : World, Below w.heap.size w V → V.heap[gn]? = some (.cells #[.slice A0_0 l0_0.length c0_0, .slice A0_1 l0_1.length c0_1, .slice A0_2 l0_2.length c0_2, .slice A0_3 l0_3.length c0_3, .slice A0_4 l0_4.length c0_4, .slice A0_5 l0_5.length c0_5] 36 (0, 0)) → Calls Tryd.prog 45 #[.slice A0_5 l0_5.length c0_5, .func (.func 46) #[] #[.pointer (some ⟨gn, 0, none⟩)]] V fun e W' => e = .returned (.bool (l0_5.any (filtBad l0_1))) ∧ Below V.heap.size V W') := ⟨fun V hV hb => any97 (filtBad l0_1) l0_5 46 #[.pointer (some ⟨gn, 0, none⟩)] (enters_of Tryd.func46 (by kernel_rfl) rfl) A0_5 c0_5 V (Kd.C_below HN.out.2.2.2.2.2.2.2.2.2.2.1 hV) (fun x W hW => filt_fn A0_0 c0_0 l0_0 A0_1 c0_1 l0_1 A0_2 c0_2 l0_2 A0_3 c0_3 l0_3 A0_4 c0_4 l0_4 A0_5 c0_5 l0_5 w HN gn x W (hV.trans (hW.mono hV.size)) (blk_below hb hW))⟩
  generalize l0_4.any (impBad l0_1) = ib at h HI
  generalize l0_5.any (filtBad l0_1) = fb at h HF
  obtain ⟨hn0, hn1, hn2, hn3, hn4, hn5⟩ := swc6 BN.out.1
  cases ib with
  | true =>
   rw [if_pos rfl] at h
   obtain rfl := Option.some.inj h
   clear h
   go_wp2_with ((go_at_call 42; (with_reducible refine (HI.out _ HB.out BN.out.1).mono ?_); rintro e wi ⟨rfl, hb⟩; clear hn0 hn1 hn2 hn3 hn4 hn5; replace HB := aB HB hb; replace BN := aN BN hb; clear hb; obtain ⟨hn0, hn1, hn2, hn3, hn4, hn5⟩ := swc6 BN.out.1))
   go_ret
   exact ⟨rfl, HB.out⟩
  | false =>
   rw [if_neg Bool.false_ne_true] at h
   cases fb with
   | true =>
    rw [if_pos rfl] at h
    obtain rfl := Option.some.inj h
    clear h
    go_wp2_with (first | (go_at_call 42; (with_reducible refine (HI.out _ HB.out BN.out.1).mono ?_); rintro e wi ⟨rfl, hb⟩; clear hn0 hn1 hn2 hn3 hn4 hn5; replace HB := aB HB hb; replace BN := aN BN hb; clear hb; obtain ⟨hn0, hn1, hn2, hn3, hn4, hn5⟩ := swc6 BN.out.1) | (go_at_call 45; (with_reducible refine (HF.out _ HB.out BN.out.1).mono ?_); rintro e wi ⟨rfl, hb⟩; clear hn0 hn1 hn2 hn3 hn4 hn5; replace HB := aB HB hb; replace BN := aN BN hb; clear hb; obtain ⟨hn0, hn1, hn2, hn3, hn4, hn5⟩ := swc6 BN.out.1))
    go_ret
    exact ⟨rfl, HB.out⟩
   | false =>
    rw [if_neg Bool.false_ne_true] at h
    replace h := Option.bind_eq_some_iff.1 h
    obtain ⟨a, ha, h⟩ := h
    have HAR : Aside0 (∀ V : World, Below w.heap.size w V → Calls Tryd.prog 47 #[.agg #[.slice A0_0 l0_0.length c0_0, .slice A0_1 l0_1.length c0_1, .slice A0_2 l0_2.length c0_2, .slice A0_3 l0_3.length c0_3, .slice A0_4 l0_4.length c0_4, .slice A0_5 l0_5.length c0_5], .slice A0_2 l0_2.length c0_2] V fun e W' => e = .returned (.bool a) ∧ Below V.heap.size V W') := ⟨fun V hV => impl_areRouters.calls k A0_0 c0_0 l0_0 A0_1 c0_1 l0_1 A0_2 c0_2 l0_2 A0_3 c0_3 l0_3 A0_4 c0_4 l0_4 A0_5 c0_5 l0_5 A0_2 c0_2 l0_2 _ V (Kd.C_below HN.out.1 hV) HN.out.2.1 (Kd.C_below HN.out.2.2.1 hV) HN.out.2.2.2.1 (Kd.C_below HN.out.2.2.2.2.1 hV) HN.out.2.2.2.2.2.1 (Kd.C_below HN.out.2.2.2.2.2.2.1 hV) HN.out.2.2.2.2.2.2.2.1 (Kd.C_below HN.out.2.2.2.2.2.2.2.2.1 hV) HN.out.2.2.2.2.2.2.2.2.2.1 (Kd.C_below HN.out.2.2.2.2.2.2.2.2.2.2.1 hV) HN.out.2.2.2.2.2.2.2.2.2.2.2 (Kd.C_below HN.out.2.2.2.2.1 hV) HN.out.2.2.2.2.2.1 ha⟩
    clear ha
    cases a with
    | false =>
     rw [if_neg Bool.false_ne_true] at h
     obtain rfl := Option.some.inj h
     clear h
     go_wp2_with (first | (go_at_call 42; (with_reducible refine (HI.out _ HB.out BN.out.1).mono ?_); rintro e wi ⟨rfl, hb⟩; clear hn0 hn1 hn2 hn3 hn4 hn5; replace HB := aB HB hb; replace BN := aN BN hb; clear hb; obtain ⟨hn0, hn1, hn2, hn3, hn4, hn5⟩ := swc6 BN.out.1) | (go_at_call 45; (with_reducible refine (HF.out _ HB.out BN.out.1).mono ?_); rintro e wi ⟨rfl, hb⟩; clear hn0 hn1 hn2 hn3 hn4 hn5; replace HB := aB HB hb; replace BN := aN BN hb; clear hb; obtain ⟨hn0, hn1, hn2, hn3, hn4, hn5⟩ := swc6 BN.out.1) | (go_at_call 47; (with_reducible refine (HAR.out _ HB.out).mono ?_); rintro e wi ⟨rfl, hb⟩; clear hn0 hn1 hn2 hn3 hn4 hn5; replace HB := aB HB hb; replace BN := aN BN hb; clear hb; obtain ⟨hn0, hn1, hn2, hn3, hn4, hn5⟩ := swc6 BN.out.1))
     go_ret
     exact ⟨rfl, HB.out⟩
    | true =>
     rw [if_pos rfl] at h
     replace h := Option.bind_eq_some_iff.1 h
     obtain ⟨b, hb, h⟩ := h
     have HBR : Aside0 (∀ V : World, Below w.heap.size w V → Calls Tryd.prog 47 #[.agg #[.slice A0_0 l0_0.length c0_0, .slice A0_1 l0_1.length c0_1, .slice A0_2 l0_2.length c0_2, .slice A0_3 l0_3.length c0_3, .slice A0_4 l0_4.length c0_4, .slice A0_5 l0_5.length c0_5], .slice A0_3 l0_3.length c0_3] V fun e W' => e = .returned (.bool b) ∧ Below V.heap.size V W') := ⟨fun V hV => impl_areRouters.calls k A0_0 c0_0 l0_0 A0_1 c0_1 l0_1 A0_2 c0_2 l0_2 A0_3 c0_3 l0_3 A0_4 c0_4 l0_4 A0_5 c0_5 l0_5 A0_3 c0_3 l0_3 _ V (Kd.C_below HN.out.1 hV) HN.out.2.1 (Kd.C_below HN.out.2.2.1 hV) HN.out.2.2.2.1 (Kd.C_below HN.out.2.2.2.2.1 hV) HN.out.2.2.2.2.2.1 (Kd.C_below HN.out.2.2.2.2.2.2.1 hV) HN.out.2.2.2.2.2.2.2.1 (Kd.C_below HN.out.2.2.2.2.2.2.2.2.1 hV) HN.out.2.2.2.2.2.2.2.2.2.1 (Kd.C_below HN.out.2.2.2.2.2.2.2.2.2.2.1 hV) HN.out.2.2.2.2.2.2.2.2.2.2.2 (Kd.C_below HN.out.2.2.2.2.2.2.1 hV) HN.out.2.2.2.2.2.2.2.1 hb⟩
     clear hb
     cases b with
     | false =>
      rw [Bool.false_and] at h
      obtain rfl := Option.some.inj h
      clear h
      go_wp2_with (first | (go_at_call 42; (with_reducible refine (HI.out _ HB.out BN.out.1).mono ?_); rintro e wi ⟨rfl, hb⟩; clear hn0 hn1 hn2 hn3 hn4 hn5; replace HB := aB HB hb; replace BN := aN BN hb; clear hb; obtain ⟨hn0, hn1, hn2, hn3, hn4, hn5⟩ := swc6 BN.out.1) | (go_at_call 45; (with_reducible refine (HF.out _ HB.out BN.out.1).mono ?_); rintro e wi ⟨rfl, hb⟩; clear hn0 hn1 hn2 hn3 hn4 hn5; replace HB := aB HB hb; replace BN := aN BN hb; clear hb; obtain ⟨hn0, hn1, hn2, hn3, hn4, hn5⟩ := swc6 BN.out.1) | (go_at_call 47; (with_reducible refine (HAR.out _ HB.out).mono ?_); rintro e wi ⟨rfl, hb⟩; clear hn0 hn1 hn2 hn3 hn4 hn5; replace HB := aB HB hb; replace BN := aN BN hb; clear hb; obtain ⟨hn0, hn1, hn2, hn3, hn4, hn5⟩ := swc6 BN.out.1) | (go_at_call 47; (with_reducible refine (HBR.out _ HB.out).mono ?_); rintro e wi ⟨rfl, hb⟩; clear hn0 hn1 hn2 hn3 hn4 hn5; replace HB := aB HB hb; replace BN := aN BN hb; clear hb; obtain ⟨hn0, hn1, hn2, hn3, hn4, hn5⟩ := swc6 BN.out.1))
      go_ret
      exact ⟨rfl, HB.out⟩
     | true =>
      by_cases hl : l0_3.length ≤ 2
      ·have hl2 : decide ((l0_3.length : Int) ≤ 2) = true := decide_eq_true (by omega)
       rw [decide_eq_true hl, Bool.true_and] at h
       obtain rfl := Option.some.inj h
       clear h
       go_wp2_with (first | (go_at_call 42; (with_reducible refine (HI.out _ HB.out BN.out.1).mono ?_); rintro e wi ⟨rfl, hb⟩; clear hn0 hn1 hn2 hn3 hn4 hn5; replace HB := aB HB hb; replace BN := aN BN hb; clear hb; obtain ⟨hn0, hn1, hn2, hn3, hn4, hn5⟩ := swc6 BN.out.1) | (go_at_call 45; (with_reducible refine (HF.out _ HB.out BN.out.1).mono ?_); rintro e wi ⟨rfl, hb⟩; clear hn0 hn1 hn2 hn3 hn4 hn5; replace HB := aB HB hb; replace BN := aN BN hb; clear hb; obtain ⟨hn0, hn1, hn2, hn3, hn4, hn5⟩ := swc6 BN.out.1) | (go_at_call 47; (with_reducible refine (HAR.out _ HB.out).mono ?_); rintro e wi ⟨rfl, hb⟩; clear hn0 hn1 hn2 hn3 hn4 hn5; replace HB := aB HB hb; replace BN := aN BN hb; clear hb; obtain ⟨hn0, hn1, hn2, hn3, hn4, hn5⟩ := swc6 BN.out.1) | (go_at_call 47; (with_reducible refine (HBR.out _ HB.out).mono ?_); rintro e wi ⟨rfl, hb⟩; clear hn0 hn1 hn2 hn3 hn4 hn5; replace HB := aB HB hb; replace BN := aN BN hb; clear hb; obtain ⟨hn0, hn1, hn2, hn3, hn4, hn5⟩ := swc6 BN.out.1))
       go_ret
       exact ⟨rfl, HB.out⟩
      have hl2 : decide ((l0_3.length : Int) ≤ 2) = false := decide_eq_false (by omega)
      rw [decide_eq_false hl, Bool.true_and] at h
      obtain rfl := Option.some.inj h
      clear h
      go_wp2_with (first | (go_at_call 42; (with_reducible refine (HI.out _ HB.out BN.out.1).mono ?_); rintro e wi ⟨rfl, hb⟩; clear hn0 hn1 hn2 hn3 hn4 hn5; replace HB := aB HB hb; replace BN := aN BN hb; clear hb; obtain ⟨hn0, hn1, hn2, hn3, hn4, hn5⟩ := swc6 BN.out.1) | (go_at_call 45; (with_reducible refine (HF.out _ HB.out BN.out.1).mono ?_); rintro e wi ⟨rfl, hb⟩; clear hn0 hn1 hn2 hn3 hn4 hn5; replace HB := aB HB hb; replace BN := aN BN hb; clear hb; obtain ⟨hn0, hn1, hn2, hn3, hn4, hn5⟩ := swc6 BN.out.1) | (go_at_call 47; (with_reducible refine (HAR.out _ HB.out).mono ?_); rintro e wi ⟨rfl, hb⟩; clear hn0 hn1 hn2 hn3 hn4 hn5; replace HB := aB HB hb; replace BN := aN BN hb; clear hb; obtain ⟨hn0, hn1, hn2, hn3, hn4, hn5⟩ := swc6 BN.out.1) | (go_at_call 47; (with_reducible refine (HBR.out _ HB.out).mono ?_); rintro e wi ⟨rfl, hb⟩; clear hn0 hn1 hn2 hn3 hn4 hn5; replace HB := aB HB hb; replace BN := aN BN hb; clear hb; obtain ⟨hn0, hn1, hn2, hn3, hn4, hn5⟩ := swc6 BN.out.1))
      go_ret
      exact ⟨rfl, HB.out⟩
 have hltz : (kk : Int) < (l0_1.length : Int) := by omega
 have ew : IntKind.i64.wrap ((kk : Int) + 1) = ((kk + 1 : Nat) : Int) := IntWalk.i64_in _ (by omega)
 obtain ⟨ad, ea, hx0, hx1, hx2⟩ := at_T92 HN.out.2.2.1 (kk : Int) (by omega) (by omega)
 cases ea
 rw [Int.toNat_natCast] at hx0 hx1 hx2
 replace hx0 := swB HB.out hx0
 replace hx1 := swB HB.out hx1
 replace hx2 := swB HB.out hx2
 have hrd : rd_T92 l0_1 (kk : Int) = l0_1[kk] := by unfold rd_T92; simp [List.getD, hlt]
 rw [hrd] at hx0 hx1 hx2
 rw [List.drop_eq_getElem_cons hlt, linksB] at hN
 clear hrd
 generalize l0_1[kk] = x at hN hx0 hx1 hx2
 obtain ⟨x0, x1, x2⟩ := x
 unfold linkB at hN
 dsimp only at hN hx0 hx1 hx2
 have HLK : Aside0 (∀ V : World, Below w.heap.size w V → Calls Tryd.prog 41 #[.agg #[.slice A0_0 l0_0.length c0_0, .slice (some ad) l0_1.length c0_1, .slice A0_2 l0_2.length c0_2, .slice A0_3 l0_3.length c0_3, .slice A0_4 l0_4.length c0_4, .slice A0_5 l0_5.length c0_5], .int .i64 x0, .int .i64 x1] V fun e W' => e = .returned (.int .i64 (linkI l0_1 x0 x1)) ∧ Below V.heap.size V W') := ⟨fun V hV => impl_linkOf.calls A0_0 c0_0 l0_0 (some ad) c0_1 l0_1 A0_2 c0_2 l0_2 A0_3 c0_3 l0_3 A0_4 c0_4 l0_4 A0_5 c0_5 l0_5 x0 x1 _ V (Kd.C_below HN.out.1 hV) HN.out.2.1 (Kd.C_below HN.out.2.2.1 hV) HN.out.2.2.2.1 (Kd.C_below HN.out.2.2.2.2.1 hV) HN.out.2.2.2.2.2.1 (Kd.C_below HN.out.2.2.2.2.2.2.1 hV) HN.out.2.2.2.2.2.2.2.1 (Kd.C_below HN.out.2.2.2.2.2.2.2.2.1 hV) HN.out.2.2.2.2.2.2.2.2.2.1 (Kd.C_below HN.out.2.2.2.2.2.2.2.2.2.2.1 hV) HN.out.2.2.2.2.2.2.2.2.2.2.2 rfl⟩
 have HRA : Aside0 (∀ V : World, Below w.heap.size w V → Calls Tryd.prog 40 #[.agg #[.slice A0_0 l0_0.length c0_0, .slice (some ad) l0_1.length c0_1, .slice A0_2 l0_2.length c0_2, .slice A0_3 l0_3.length c0_3, .slice A0_4 l0_4.length c0_4, .slice A0_5 l0_5.length c0_5], .int .i64 x0] V fun e W' => e = .returned (.bool (routerB l0_0.length x0)) ∧ Below V.heap.size V W') := ⟨fun V hV => impl_isRouter.calls A0_0 c0_0 l0_0 (some ad) c0_1 l0_1 A0_2 c0_2 l0_2 A0_3 c0_3 l0_3 A0_4 c0_4 l0_4 A0_5 c0_5 l0_5 x0 _ V (Kd.C_below HN.out.1 hV) HN.out.2.1 (Kd.C_below HN.out.2.2.1 hV) HN.out.2.2.2.1 (Kd.C_below HN.out.2.2.2.2.1 hV) HN.out.2.2.2.2.2.1 (Kd.C_below HN.out.2.2.2.2.2.2.1 hV) HN.out.2.2.2.2.2.2.2.1 (Kd.C_below HN.out.2.2.2.2.2.2.2.2.1 hV) HN.out.2.2.2.2.2.2.2.2.2.1 (Kd.C_below HN.out.2.2.2.2.2.2.2.2.2.2.1 hV) HN.out.2.2.2.2.2.2.2.2.2.2.2 (router_is l0_0 l0_1 l0_2 l0_3 l0_4 l0_5 x0 HM.out.1)⟩
 have HRB : Aside0 (∀ V : World, Below w.heap.size w V → Calls Tryd.prog 40 #[.agg #[.slice A0_0 l0_0.length c0_0, .slice (some ad) l0_1.length c0_1, .slice A0_2 l0_2.length c0_2, .slice A0_3 l0_3.length c0_3, .slice A0_4 l0_4.length c0_4, .slice A0_5 l0_5.length c0_5], .int .i64 x1] V fun e W' => e = .returned (.bool (routerB l0_0.length x1)) ∧ Below V.heap.size V W') := ⟨fun V hV => impl_isRouter.calls A0_0 c0_0 l0_0 (some ad) c0_1 l0_1 A0_2 c0_2 l0_2 A0_3 c0_3 l0_3 A0_4 c0_4 l0_4 A0_5 c0_5 l0_5 x1 _ V (Kd.C_below HN.out.1 hV) HN.out.2.1 (Kd.C_below HN.out.2.2.1 hV) HN.out.2.2.2.1 (Kd.C_below HN.out.2.2.2.2.1 hV) HN.out.2.2.2.2.2.1 (Kd.C_below HN.out.2.2.2.2.2.2.1 hV) HN.out.2.2.2.2.2.2.2.1 (Kd.C_below HN.out.2.2.2.2.2.2.2.2.1 hV) HN.out.2.2.2.2.2.2.2.2.2.1 (Kd.C_below HN.out.2.2.2.2.2.2.2.2.2.2.1 hV) HN.out.2.2.2.2.2.2.2.2.2.2.2 (router_is l0_0 l0_1 l0_2 l0_3 l0_4 l0_5 x1 HM.out.1)⟩
 have HWI : Aside0 (∀ V : World, Calls Tryd.prog 37 #[.int .i64 x2, .int .i64 1, .int .i64 100] V fun e W' => e = .returned (.bool (inB x2 1 100)) ∧ Drawn0 V W') := ⟨fun V => impl_within.calls x2 1 100 _ V (within_is x2 1 100)⟩
 generalize linkI l0_1 x0 x1 = lk at hN HLK
 generalize routerB l0_0.length x0 = ra at hN HRA
 generalize routerB l0_0.length x1 = rb at hN HRB
 generalize inB x2 1 100 = ci at hN HWI
 obtain ⟨hn0, hn1, hn2, hn3, hn4, hn5⟩ := swc6 BN.out.1
 cases ra with
 | false =>
  simp only [Bool.true_and, Bool.false_and, Bool.and_false, Bool.not_true, Bool.not_false] at hN
  subst hN
  have h := H.out
  rw [if_neg Bool.false_ne_true] at h
  obtain rfl := Option.some.inj h
  clear h
  go_wp2_with (first | ((with_reducible refine gate_dst (N := 6) rfl ?_); refine box_event rfl (N := 6) rfl (cs := #[.int .i64 0, .int .i64 0, .int .i64 0]) (t := 62) (by go_simp; done) ?_; intro g6 hg6 w6 hbox hbb; have HX := aM (And.intro hbox (And.intro (show w.heap.size ≤ g6 by rw [hg6]; exact HB.out.size) (show gn ≠ g6 by rw [hg6]; exact Nat.ne_of_lt (blk_lt BN.out.1)))); clear hn0 hn1 hn2 hn3 hn4 hn5; clear hx0 hx1 hx2; replace HB := aM (HB.out.trans (hbb.mono HB.out.size)); replace BN := aM (And.intro (blk_below BN.out.1 hbb) BN.out.2); clear hbb hbox hg6) | ((with_reducible refine gate_store (t := 62) (p := 6) rfl ?_); obtain ⟨hc0, hc1, hc2⟩ := swc3 HX.out.1; have hf0 := blk_frozen HX.out.1 0; have hf1 := blk_frozen HX.out.1 1; have hf2 := blk_frozen HX.out.1 2; refine store_event (t := 62) (p := 6) (v := ?vo) (w1 := ((w6.setCell ⟨g6, 0, none⟩ (.int .i64 x0)).setCell ⟨g6, 1, none⟩ (.int .i64 x1)).setCell ⟨g6, 2, none⟩ (.int .i64 x2)) ?hg ?ho ?hn ?hr ?_; (case ho => rfl); (case hg => rfl); (case hn => rfl); (case hr => (go_simp; done)); clear hc0 hc1 hc2 hf0 hf1 hf2; intro w7 hw_; obtain ⟨hbk, hkb, hkw⟩ := box_put92 (a := .int .i64 x0) (b := .int .i64 x1) (v := .int .i64 x2) HX.out.1; rw [← hw_] at hbk hkb hkw; clear hw_; replace HB := aM (hkw _ HB.out HX.out.2.1); replace BN := aM (And.intro (blk_kept BN.out.1 hkb (fun h_ => HX.out.2.2 h_)) BN.out.2); replace HX := aM (And.intro hbk HX.out.2); clear hbk hkb hkw; obtain ⟨hn0, hn1, hn2, hn3, hn4, hn5⟩ := swc6 BN.out.1; obtain ⟨hx0, hx1, hx2⟩ := swc3 HX.out.1) | (go_at_call 40; (with_reducible refine (HRA.out _ HB.out).mono ?_); rintro e wi ⟨rfl, hb⟩; clear hn0 hn1 hn2 hn3 hn4 hn5; clear hx0 hx1 hx2; replace HB := aB HB hb; replace BN := aN BN hb; replace HX := aN HX hb; clear hb; obtain ⟨hn0, hn1, hn2, hn3, hn4, hn5⟩ := swc6 BN.out.1; obtain ⟨hx0, hx1, hx2⟩ := swc3 HX.out.1))
  go_ret
  exact ⟨rfl, HB.out⟩
 | true =>
  cases rb with
  | false =>
   simp only [Bool.true_and, Bool.false_and, Bool.and_false, Bool.not_true, Bool.not_false] at hN
   subst hN
   have h := H.out
   rw [if_neg Bool.false_ne_true] at h
   obtain rfl := Option.some.inj h
   clear h
   go_wp2_with (first | ((with_reducible refine gate_dst (N := 6) rfl ?_); refine box_event rfl (N := 6) rfl (cs := #[.int .i64 0, .int .i64 0, .int .i64 0]) (t := 62) (by go_simp; done) ?_; intro g6 hg6 w6 hbox hbb; have HX := aM (And.intro hbox (And.intro (show w.heap.size ≤ g6 by rw [hg6]; exact HB.out.size) (show gn ≠ g6 by rw [hg6]; exact Nat.ne_of_lt (blk_lt BN.out.1)))); clear hn0 hn1 hn2 hn3 hn4 hn5; clear hx0 hx1 hx2; replace HB := aM (HB.out.trans (hbb.mono HB.out.size)); replace BN := aM (And.intro (blk_below BN.out.1 hbb) BN.out.2); clear hbb hbox hg6) | ((with_reducible refine gate_store (t := 62) (p := 6) rfl ?_); obtain ⟨hc0, hc1, hc2⟩ := swc3 HX.out.1; have hf0 := blk_frozen HX.out.1 0; have hf1 := blk_frozen HX.out.1 1; have hf2 := blk_frozen HX.out.1 2; refine store_event (t := 62) (p := 6) (v := ?vo) (w1 := ((w6.setCell ⟨g6, 0, none⟩ (.int .i64 x0)).setCell ⟨g6, 1, none⟩ (.int .i64 x1)).setCell ⟨g6, 2, none⟩ (.int .i64 x2)) ?hg ?ho ?hn ?hr ?_; (case ho => rfl); (case hg => rfl); (case hn => rfl); (case hr => (go_simp; done)); clear hc0 hc1 hc2 hf0 hf1 hf2; intro w7 hw_; obtain ⟨hbk, hkb, hkw⟩ := box_put92 (a := .int .i64 x0) (b := .int .i64 x1) (v := .int .i64 x2) HX.out.1; rw [← hw_] at hbk hkb hkw; clear hw_; replace HB := aM (hkw _ HB.out HX.out.2.1); replace BN := aM (And.intro (blk_kept BN.out.1 hkb (fun h_ => HX.out.2.2 h_)) BN.out.2); replace HX := aM (And.intro hbk HX.out.2); clear hbk hkb hkw; obtain ⟨hn0, hn1, hn2, hn3, hn4, hn5⟩ := swc6 BN.out.1; obtain ⟨hx0, hx1, hx2⟩ := swc3 HX.out.1) | (go_at_call 40; (with_reducible refine (HRA.out _ HB.out).mono ?_); rintro e wi ⟨rfl, hb⟩; clear hn0 hn1 hn2 hn3 hn4 hn5; clear hx0 hx1 hx2; replace HB := aB HB hb; replace BN := aN BN hb; replace HX := aN HX hb; clear hb; obtain ⟨hn0, hn1, hn2, hn3, hn4, hn5⟩ := swc6 BN.out.1; obtain ⟨hx0, hx1, hx2⟩ := swc3 HX.out.1) | (go_at_call 40; (with_reducible refine (HRB.out _ HB.out).mono ?_); rintro e wi ⟨rfl, hb⟩; clear hn0 hn1 hn2 hn3 hn4 hn5; clear hx0 hx1 hx2; replace HB := aB HB hb; replace BN := aN BN hb; replace HX := aN HX hb; clear hb; obtain ⟨hn0, hn1, hn2, hn3, hn4, hn5⟩ := swc6 BN.out.1; obtain ⟨hx0, hx1, hx2⟩ := swc3 HX.out.1))
   go_ret
   exact ⟨rfl, HB.out⟩
  | true =>
   cases he : (x0 == x1) with
   | true =>
    rw [he] at hN
    simp only [Bool.true_and, Bool.false_and, Bool.and_false, Bool.not_true, Bool.not_false] at hN
    subst hN
    have h := H.out
    rw [if_neg Bool.false_ne_true] at h
    obtain rfl := Option.some.inj h
    clear h
    go_wp2_with (first | ((with_reducible refine gate_dst (N := 6) rfl ?_); refine box_event rfl (N := 6) rfl (cs := #[.int .i64 0, .int .i64 0, .int .i64 0]) (t := 62) (by go_simp; done) ?_; intro g6 hg6 w6 hbox hbb; have HX := aM (And.intro hbox (And.intro (show w.heap.size ≤ g6 by rw [hg6]; exact HB.out.size) (show gn ≠ g6 by rw [hg6]; exact Nat.ne_of_lt (blk_lt BN.out.1)))); clear hn0 hn1 hn2 hn3 hn4 hn5; clear hx0 hx1 hx2; replace HB := aM (HB.out.trans (hbb.mono HB.out.size)); replace BN := aM (And.intro (blk_below BN.out.1 hbb) BN.out.2); clear hbb hbox hg6) | ((with_reducible refine gate_store (t := 62) (p := 6) rfl ?_); obtain ⟨hc0, hc1, hc2⟩ := swc3 HX.out.1; have hf0 := blk_frozen HX.out.1 0; have hf1 := blk_frozen HX.out.1 1; have hf2 := blk_frozen HX.out.1 2; refine store_event (t := 62) (p := 6) (v := ?vo) (w1 := ((w6.setCell ⟨g6, 0, none⟩ (.int .i64 x0)).setCell ⟨g6, 1, none⟩ (.int .i64 x1)).setCell ⟨g6, 2, none⟩ (.int .i64 x2)) ?hg ?ho ?hn ?hr ?_; (case ho => rfl); (case hg => rfl); (case hn => rfl); (case hr => (go_simp; done)); clear hc0 hc1 hc2 hf0 hf1 hf2; intro w7 hw_; obtain ⟨hbk, hkb, hkw⟩ := box_put92 (a := .int .i64 x0) (b := .int .i64 x1) (v := .int .i64 x2) HX.out.1; rw [← hw_] at hbk hkb hkw; clear hw_; replace HB := aM (hkw _ HB.out HX.out.2.1); replace BN := aM (And.intro (blk_kept BN.out.1 hkb (fun h_ => HX.out.2.2 h_)) BN.out.2); replace HX := aM (And.intro hbk HX.out.2); clear hbk hkb hkw; obtain ⟨hn0, hn1, hn2, hn3, hn4, hn5⟩ := swc6 BN.out.1; obtain ⟨hx0, hx1, hx2⟩ := swc3 HX.out.1) | (go_at_call 40; (with_reducible refine (HRA.out _ HB.out).mono ?_); rintro e wi ⟨rfl, hb⟩; clear hn0 hn1 hn2 hn3 hn4 hn5; clear hx0 hx1 hx2; replace HB := aB HB hb; replace BN := aN BN hb; replace HX := aN HX hb; clear hb; obtain ⟨hn0, hn1, hn2, hn3, hn4, hn5⟩ := swc6 BN.out.1; obtain ⟨hx0, hx1, hx2⟩ := swc3 HX.out.1) | (go_at_call 40; (with_reducible refine (HRB.out _ HB.out).mono ?_); rintro e wi ⟨rfl, hb⟩; clear hn0 hn1 hn2 hn3 hn4 hn5; clear hx0 hx1 hx2; replace HB := aB HB hb; replace BN := aN BN hb; replace HX := aN HX hb; clear hb; obtain ⟨hn0, hn1, hn2, hn3, hn4, hn5⟩ := swc6 BN.out.1; obtain ⟨hx0, hx1, hx2⟩ := swc3 HX.out.1))
    go_ret
    exact ⟨rfl, HB.out⟩
   | false =>
    rw [he] at hN
    by_cases hq : lk < (kk : Int)
    ·have hq2 : decide (lk < (kk : Int)) = true := decide_eq_true hq
     rw [hq2] at hN
     simp only [Bool.true_and, Bool.false_and, Bool.and_false, Bool.not_true, Bool.not_false] at hN
     subst hN
     have h := H.out
     rw [if_neg Bool.false_ne_true] at h
     obtain rfl := Option.some.inj h
     clear h
     go_wp2_with (first | ((with_reducible refine gate_dst (N := 6) rfl ?_); refine box_event rfl (N := 6) rfl (cs := #[.int .i64 0, .int .i64 0, .int .i64 0]) (t := 62) (by go_simp; done) ?_; intro g6 hg6 w6 hbox hbb; have HX := aM (And.intro hbox (And.intro (show w.heap.size ≤ g6 by rw [hg6]; exact HB.out.size) (show gn ≠ g6 by rw [hg6]; exact Nat.ne_of_lt (blk_lt BN.out.1)))); clear hn0 hn1 hn2 hn3 hn4 hn5; clear hx0 hx1 hx2; replace HB := aM (HB.out.trans (hbb.mono HB.out.size)); replace BN := aM (And.intro (blk_below BN.out.1 hbb) BN.out.2); clear hbb hbox hg6) | ((with_reducible refine gate_store (t := 62) (p := 6) rfl ?_); obtain ⟨hc0, hc1, hc2⟩ := swc3 HX.out.1; have hf0 := blk_frozen HX.out.1 0; have hf1 := blk_frozen HX.out.1 1; have hf2 := blk_frozen HX.out.1 2; refine store_event (t := 62) (p := 6) (v := ?vo) (w1 := ((w6.setCell ⟨g6, 0, none⟩ (.int .i64 x0)).setCell ⟨g6, 1, none⟩ (.int .i64 x1)).setCell ⟨g6, 2, none⟩ (.int .i64 x2)) ?hg ?ho ?hn ?hr ?_; (case ho => rfl); (case hg => rfl); (case hn => rfl); (case hr => (go_simp; done)); clear hc0 hc1 hc2 hf0 hf1 hf2; intro w7 hw_; obtain ⟨hbk, hkb, hkw⟩ := box_put92 (a := .int .i64 x0) (b := .int .i64 x1) (v := .int .i64 x2) HX.out.1; rw [← hw_] at hbk hkb hkw; clear hw_; replace HB := aM (hkw _ HB.out HX.out.2.1); replace BN := aM (And.intro (blk_kept BN.out.1 hkb (fun h_ => HX.out.2.2 h_)) BN.out.2); replace HX := aM (And.intro hbk HX.out.2); clear hbk hkb hkw; obtain ⟨hn0, hn1, hn2, hn3, hn4, hn5⟩ := swc6 BN.out.1; obtain ⟨hx0, hx1, hx2⟩ := swc3 HX.out.1) | (go_at_call 40; (with_reducible refine (HRA.out _ HB.out).mono ?_); rintro e wi ⟨rfl, hb⟩; clear hn0 hn1 hn2 hn3 hn4 hn5; clear hx0 hx1 hx2; replace HB := aB HB hb; replace BN := aN BN hb; replace HX := aN HX hb; clear hb; obtain ⟨hn0, hn1, hn2, hn3, hn4, hn5⟩ := swc6 BN.out.1; obtain ⟨hx0, hx1, hx2⟩ := swc3 HX.out.1) | (go_at_call 40; (with_reducible refine (HRB.out _ HB.out).mono ?_); rintro e wi ⟨rfl, hb⟩; clear hn0 hn1 hn2 hn3 hn4 hn5; clear hx0 hx1 hx2; replace HB := aB HB hb; replace BN := aN BN hb; replace HX := aN HX hb; clear hb; obtain ⟨hn0, hn1, hn2, hn3, hn4, hn5⟩ := swc6 BN.out.1; obtain ⟨hx0, hx1, hx2⟩ := swc3 HX.out.1) | (go_at_call 41; (with_reducible refine (HLK.out _ HB.out).mono ?_); rintro e wi ⟨rfl, hb⟩; clear hn0 hn1 hn2 hn3 hn4 hn5; clear hx0 hx1 hx2; replace HB := aB HB hb; replace BN := aN BN hb; replace HX := aN HX hb; clear hb; obtain ⟨hn0, hn1, hn2, hn3, hn4, hn5⟩ := swc6 BN.out.1; obtain ⟨hx0, hx1, hx2⟩ := swc3 HX.out.1))
     go_ret
     exact ⟨rfl, HB.out⟩
    have hq2 : decide (lk < (kk : Int)) = false := decide_eq_false hq
    rw [hq2] at hN
    cases ci with
    | false =>
     simp only [Bool.true_and, Bool.false_and, Bool.and_false, Bool.not_true, Bool.not_false] at hN
     subst hN
     have h := H.out
     rw [if_neg Bool.false_ne_true] at h
     obtain rfl := Option.some.inj h
     clear h
     go_wp2_with (first | ((with_reducible refine gate_dst (N := 6) rfl ?_); refine box_event rfl (N := 6) rfl (cs := #[.int .i64 0, .int .i64 0, .int .i64 0]) (t := 62) (by go_simp; done) ?_; intro g6 hg6 w6 hbox hbb; have HX := aM (And.intro hbox (And.intro (show w.heap.size ≤ g6 by rw [hg6]; exact HB.out.size) (show gn ≠ g6 by rw [hg6]; exact Nat.ne_of_lt (blk_lt BN.out.1)))); clear hn0 hn1 hn2 hn3 hn4 hn5; clear hx0 hx1 hx2; replace HB := aM (HB.out.trans (hbb.mono HB.out.size)); replace BN := aM (And.intro (blk_below BN.out.1 hbb) BN.out.2); clear hbb hbox hg6) | ((with_reducible refine gate_store (t := 62) (p := 6) rfl ?_); obtain ⟨hc0, hc1, hc2⟩ := swc3 HX.out.1; have hf0 := blk_frozen HX.out.1 0; have hf1 := blk_frozen HX.out.1 1; have hf2 := blk_frozen HX.out.1 2; refine store_event (t := 62) (p := 6) (v := ?vo) (w1 := ((w6.setCell ⟨g6, 0, none⟩ (.int .i64 x0)).setCell ⟨g6, 1, none⟩ (.int .i64 x1)).setCell ⟨g6, 2, none⟩ (.int .i64 x2)) ?hg ?ho ?hn ?hr ?_; (case ho => rfl); (case hg => rfl); (case hn => rfl); (case hr => (go_simp; done)); clear hc0 hc1 hc2 hf0 hf1 hf2; intro w7 hw_; obtain ⟨hbk, hkb, hkw⟩ := box_put92 (a := .int .i64 x0) (b := .int .i64 x1) (v := .int .i64 x2) HX.out.1; rw [← hw_] at hbk hkb hkw; clear hw_; replace HB := aM (hkw _ HB.out HX.out.2.1); replace BN := aM (And.intro (blk_kept BN.out.1 hkb (fun h_ => HX.out.2.2 h_)) BN.out.2); replace HX := aM (And.intro hbk HX.out.2); clear hbk hkb hkw; obtain ⟨hn0, hn1, hn2, hn3, hn4, hn5⟩ := swc6 BN.out.1; obtain ⟨hx0, hx1, hx2⟩ := swc3 HX.out.1) | (go_at_call 40; (with_reducible refine (HRA.out _ HB.out).mono ?_); rintro e wi ⟨rfl, hb⟩; clear hn0 hn1 hn2 hn3 hn4 hn5; clear hx0 hx1 hx2; replace HB := aB HB hb; replace BN := aN BN hb; replace HX := aN HX hb; clear hb; obtain ⟨hn0, hn1, hn2, hn3, hn4, hn5⟩ := swc6 BN.out.1; obtain ⟨hx0, hx1, hx2⟩ := swc3 HX.out.1) | (go_at_call 40; (with_reducible refine (HRB.out _ HB.out).mono ?_); rintro e wi ⟨rfl, hb⟩; clear hn0 hn1 hn2 hn3 hn4 hn5; clear hx0 hx1 hx2; replace HB := aB HB hb; replace BN := aN BN hb; replace HX := aN HX hb; clear hb; obtain ⟨hn0, hn1, hn2, hn3, hn4, hn5⟩ := swc6 BN.out.1; obtain ⟨hx0, hx1, hx2⟩ := swc3 HX.out.1) | (go_at_call 41; (with_reducible refine (HLK.out _ HB.out).mono ?_); rintro e wi ⟨rfl, hb⟩; clear hn0 hn1 hn2 hn3 hn4 hn5; clear hx0 hx1 hx2; replace HB := aB HB hb; replace BN := aN BN hb; replace HX := aN HX hb; clear hb; obtain ⟨hn0, hn1, hn2, hn3, hn4, hn5⟩ := swc6 BN.out.1; obtain ⟨hx0, hx1, hx2⟩ := swc3 HX.out.1) | (go_at_call 37; (with_reducible refine (HWI.out _).mono ?_); rintro e wi ⟨rfl, hd⟩; have hb := hd.below; clear hd; clear hn0 hn1 hn2 hn3 hn4 hn5; clear hx0 hx1 hx2; replace HB := aB HB hb; replace BN := aN BN hb; replace HX := aN HX hb; clear hb; obtain ⟨hn0, hn1, hn2, hn3, hn4, hn5⟩ := swc6 BN.out.1; obtain ⟨hx0, hx1, hx2⟩ := swc3 HX.out.1))
     go_ret
     exact ⟨rfl, HB.out⟩
    | true =>
     simp only [Bool.true_and, Bool.not_false] at hN
     have HL := aM hN
     clear hN
     go_wp2_with (first | ((with_reducible refine gate_dst (N := 6) rfl ?_); refine box_event rfl (N := 6) rfl (cs := #[.int .i64 0, .int .i64 0, .int .i64 0]) (t := 62) (by go_simp; done) ?_; intro g6 hg6 w6 hbox hbb; have HX := aM (And.intro hbox (And.intro (show w.heap.size ≤ g6 by rw [hg6]; exact HB.out.size) (show gn ≠ g6 by rw [hg6]; exact Nat.ne_of_lt (blk_lt BN.out.1)))); clear hn0 hn1 hn2 hn3 hn4 hn5; clear hx0 hx1 hx2; replace HB := aM (HB.out.trans (hbb.mono HB.out.size)); replace BN := aM (And.intro (blk_below BN.out.1 hbb) BN.out.2); clear hbb hbox hg6) | ((with_reducible refine gate_store (t := 62) (p := 6) rfl ?_); obtain ⟨hc0, hc1, hc2⟩ := swc3 HX.out.1; have hf0 := blk_frozen HX.out.1 0; have hf1 := blk_frozen HX.out.1 1; have hf2 := blk_frozen HX.out.1 2; refine store_event (t := 62) (p := 6) (v := ?vo) (w1 := ((w6.setCell ⟨g6, 0, none⟩ (.int .i64 x0)).setCell ⟨g6, 1, none⟩ (.int .i64 x1)).setCell ⟨g6, 2, none⟩ (.int .i64 x2)) ?hg ?ho ?hn ?hr ?_; (case ho => rfl); (case hg => rfl); (case hn => rfl); (case hr => (go_simp; done)); clear hc0 hc1 hc2 hf0 hf1 hf2; intro w7 hw_; obtain ⟨hbk, hkb, hkw⟩ := box_put92 (a := .int .i64 x0) (b := .int .i64 x1) (v := .int .i64 x2) HX.out.1; rw [← hw_] at hbk hkb hkw; clear hw_; replace HB := aM (hkw _ HB.out HX.out.2.1); replace BN := aM (And.intro (blk_kept BN.out.1 hkb (fun h_ => HX.out.2.2 h_)) BN.out.2); replace HX := aM (And.intro hbk HX.out.2); clear hbk hkb hkw; obtain ⟨hn0, hn1, hn2, hn3, hn4, hn5⟩ := swc6 BN.out.1; obtain ⟨hx0, hx1, hx2⟩ := swc3 HX.out.1) | (go_at_call 40; (with_reducible refine (HRA.out _ HB.out).mono ?_); rintro e wi ⟨rfl, hb⟩; clear hn0 hn1 hn2 hn3 hn4 hn5; clear hx0 hx1 hx2; replace HB := aB HB hb; replace BN := aN BN hb; replace HX := aN HX hb; clear hb; obtain ⟨hn0, hn1, hn2, hn3, hn4, hn5⟩ := swc6 BN.out.1; obtain ⟨hx0, hx1, hx2⟩ := swc3 HX.out.1) | (go_at_call 40; (with_reducible refine (HRB.out _ HB.out).mono ?_); rintro e wi ⟨rfl, hb⟩; clear hn0 hn1 hn2 hn3 hn4 hn5; clear hx0 hx1 hx2; replace HB := aB HB hb; replace BN := aN BN hb; replace HX := aN HX hb; clear hb; obtain ⟨hn0, hn1, hn2, hn3, hn4, hn5⟩ := swc6 BN.out.1; obtain ⟨hx0, hx1, hx2⟩ := swc3 HX.out.1) | (go_at_call 41; (with_reducible refine (HLK.out _ HB.out).mono ?_); rintro e wi ⟨rfl, hb⟩; clear hn0 hn1 hn2 hn3 hn4 hn5; clear hx0 hx1 hx2; replace HB := aB HB hb; replace BN := aN BN hb; replace HX := aN HX hb; clear hb; obtain ⟨hn0, hn1, hn2, hn3, hn4, hn5⟩ := swc6 BN.out.1; obtain ⟨hx0, hx1, hx2⟩ := swc3 HX.out.1) | (go_at_call 37; (with_reducible refine (HWI.out _).mono ?_); rintro e wi ⟨rfl, hd⟩; have hb := hd.below; clear hd; clear hn0 hn1 hn2 hn3 hn4 hn5; clear hx0 hx1 hx2; replace HB := aB HB hb; replace BN := aN BN hb; replace HX := aN HX hb; clear hb; obtain ⟨hn0, hn1, hn2, hn3, hn4, hn5⟩ := swc6 BN.out.1; obtain ⟨hx0, hx1, hx2⟩ := swc3 HX.out.1))
     go_roundg (l0_1.length - (kk + 1))
     case measure => omega
     case rel => exact ⟨kk + 1, by omega, by omega, by go_num, HB, BN, HL⟩
end Go.Proofs.YtgibacfgjmdjdaaDoor.PFnExactIsStable
end
section
namespace Go.Proofs.YtgibacfgjmdjdaaDoor.PFnExactIsStable
open Go.RowKit Go.Proofs.YtgibacfgjmdjdaaDoorW.PrintWords Go.Proofs.YtgibacfgjmdjdaaDoorW.PrintLast Go.Proofs.YtgibacfgjmdjdaaDoorW.PrintMore
attribute [local go_sem] max2_int min2_int max_two min_two max_three min_three max_four min_four   -- for this text's walks alone
set_option linter.unusedVariables false
set_option maxHeartbeats 8000000
set_option maxRecDepth 100000
set_option linter.unusedSimpArgs false
def spec_l06Rising.l0 : Nat → List Int → Int → Int → Option (Bool)
 | 0, _, _, _ => none
 | k + 1, x0, x1, x5 => if x5 < (x0.length : Int) then (if 0 ≤ x5 then ((spec_l01In.f (rd x0 x5) 0 (wrap64 (x1 - 1))).bind fun t204 => (if t204 = true then (if x5 > 0 then (if 0 ≤ (wrap64 (x5 - 1)) then (if (wrap64 (x5 - 1)) < (x0.length : Int) then (if (rd x0 (wrap64 (x5 - 1))) ≥ (rd x0 x5) then (some false) else (spec_l06Rising.l0 k x0 x1 (wrap64 (x5 + 1)))) else (none)) else (none)) else (spec_l06Rising.l0 k x0 x1 (wrap64 (x5 + 1)))) else (some false))) else (none)) else (some true)
def spec_l06Rising.f (k : Nat) (l0 : List Int) (a1 : Int) : Option (Bool) := spec_l06Rising.l0 k l0 a1 0
theorem spec_l06Rising.calls (k : Nat) (A0 : Option Addr) (c0 : Nat) (l0 : List Int) (a1 : Int) (r : Bool) (w : World) (hr0 : Kd.C (Kd.int .i64) w A0 l0.length l0) (hc0 : l0.length ≤ c0) (h : spec_l06Rising.f k l0 a1 = some r) :
  Calls Tryd.prog 29 #[.slice A0 l0.length c0, .int .i64 a1] w fun e w' => e = .returned (.bool r) ∧ Drawn0 w w' := by
 have HR0 := aM hr0
 have HC0 := aM hc0
 clear hr0 hc0
 have H : (spec_l06Rising.l0 k l0 a1 0) = some r := h
 clear h
 have H' := aM H
 clear H
 go_enter Tryd.func29, Tryd.ntmps29
 go_wp2
 repeat (go_quiet (fail); try go_wp2)
 go_loopg [5] k (fun kq v5 w' => ∃ (x5_1 : Int), v5 = .int .i64 x5_1 ∧ Aside0 (spec_l06Rising.l0 kq l0 a1 x5_1 = some r) ∧ Aside0 (kq ≤ k) ∧ Drawn0 w w')
 case atStart => exact ⟨(0), (by rfl), H', ⟨Nat.le_refl _⟩, by repeat (exact Drawn0.refl _)⟩
 clear H'
 obtain ⟨x5_1, rfl, HA, HK1, ⟨m1, rfl⟩⟩ := hrel
 cases gk with
 | zero => exact absurd HA.out (by simp [spec_l06Rising.l0])
 | succ k1 =>
  have H := HA.out
  clear HA
  simp only [spec_l06Rising.l0] at H
  by_cases c3 : x5_1 < (l0.length : Int)
  rotate_left
  ·rw [if_neg c3] at H
   have c3b0 : decide (x5_1 < (l0.length : Int)) = false := decide_eq_false c3
   clear c3
   obtain rfl := Option.some.inj H
   go_wp2
   repeat (go_quiet (fail); try go_wp2)
   go_ret
   exact ⟨by rfl, by repeat (first | exact Drawn0.refl _ | apply Drawn0.step)⟩
  rw [if_pos c3] at H
  have c3b0 : decide (x5_1 < (l0.length : Int)) = true := decide_eq_true c3
  clear c3
  by_cases c4 : 0 ≤ x5_1
  rotate_left
  ·rw [if_neg c4] at H
   exact absurd H (by simp)
  rw [if_pos c4] at H
  have c4b0 : decide (0 ≤ x5_1) = true := decide_eq_true c4
  clear c4
  replace H := bS H
  obtain ⟨t204, A50, H⟩ := H
  replace H : (if t204 = true then (if x5_1 > 0 then (if 0 ≤ (wrap64 (x5_1 - 1)) then (if (wrap64 (x5_1 - 1)) < (l0.length : Int) then (if (rd l0 (wrap64 (x5_1 - 1))) ≥ (rd l0 x5_1) then (some false) else (spec_l06Rising.l0 k1 l0 a1 (wrap64 (x5_1 + 1)))) else (none)) else (none)) else (spec_l06Rising.l0 k1 l0 a1 (wrap64 (x5_1 + 1)))) else (some false)) = some r := H
  have A5 := aM A50
  clear A50
  by_cases c6 : t204 = true
  rotate_left
  ·replace c6 := Bool.eq_false_iff.mpr c6
   subst c6
   rw [if_neg (show ¬ (false = true) by decide)] at H
   obtain rfl := Option.some.inj H
   have p203 : 0 ≤ (x5_1 : Int) := oD ‹_›
   have q203 : x5_1 < (l0.length : Int) := oD ‹_›
   obtain ⟨ad203, e203, hx203_0⟩ := Kd.at_int HR0.out x5_1 p203 q203
   cases e203
   replace p203 := eq_true p203
   replace q203 := eq_true q203
   go_wp2_with (first | (go_at_call 28; (with_reducible refine (spec_l01In.calls (rd l0 x5_1) 0 (wrap64 (a1 - 1)) false _ A5.out).mono ?_); rintro e w' ⟨rfl, ⟨nd, rfl⟩⟩; (try first | exact ⟨rfl, _, World.drewN_drewN _ _ _⟩ | exact ⟨rfl, _, Eq.trans (World.drewN_drewN _ _ _) (congrArg (World.drewN _) (Nat.add_assoc _ _ _))⟩)))
   repeat (go_quiet ((go_at_call 28; (with_reducible refine (spec_l01In.calls (rd l0 x5_1) 0 (wrap64 (a1 - 1)) false _ A5.out).mono ?_); rintro e w' ⟨rfl, ⟨nd, rfl⟩⟩; (try exact ⟨rfl, _, Eq.trans (World.drewN_drewN _ _ _) (congrArg (World.drewN _) (Nat.add_assoc _ _ _))⟩))); try go_wp2_with (first | (go_at_call 28; (with_reducible refine (spec_l01In.calls (rd l0 x5_1) 0 (wrap64 (a1 - 1)) false _ A5.out).mono ?_); rintro e w' ⟨rfl, ⟨nd, rfl⟩⟩; (try first | exact ⟨rfl, _, World.drewN_drewN _ _ _⟩ | exact ⟨rfl, _, Eq.trans (World.drewN_drewN _ _ _) (congrArg (World.drewN _) (Nat.add_assoc _ _ _))⟩))))
   go_ret
   exact ⟨by rfl, by repeat (first | exact Drawn0.refl _ | apply Drawn0.step)⟩
  subst c6
  rw [if_pos rfl] at H
  by_cases c7 : x5_1 > 0
  rotate_left
  ·rw [if_neg c7] at H
   have c7b0 : decide (0 < x5_1) = false := decide_eq_false c7
   clear c7
   have H' := aM H
   clear H
   have p203 : 0 ≤ (x5_1 : Int) := oD ‹_›
   have q203 : x5_1 < (l0.length : Int) := oD ‹_›
   obtain ⟨ad203, e203, hx203_0⟩ := Kd.at_int HR0.out x5_1 p203 q203
   cases e203
   replace p203 := eq_true p203
   replace q203 := eq_true q203
   go_wp2_with (first | (go_at_call 28; (with_reducible refine (spec_l01In.calls (rd l0 x5_1) 0 (wrap64 (a1 - 1)) true _ A5.out).mono ?_); rintro e w' ⟨rfl, ⟨nd, rfl⟩⟩; (try first | exact ⟨rfl, _, World.drewN_drewN _ _ _⟩ | exact ⟨rfl, _, Eq.trans (World.drewN_drewN _ _ _) (congrArg (World.drewN _) (Nat.add_assoc _ _ _))⟩)))
   repeat (go_quiet ((go_at_call 28; (with_reducible refine (spec_l01In.calls (rd l0 x5_1) 0 (wrap64 (a1 - 1)) true _ A5.out).mono ?_); rintro e w' ⟨rfl, ⟨nd, rfl⟩⟩; (try exact ⟨rfl, _, Eq.trans (World.drewN_drewN _ _ _) (congrArg (World.drewN _) (Nat.add_assoc _ _ _))⟩))); try go_wp2_with (first | (go_at_call 28; (with_reducible refine (spec_l01In.calls (rd l0 x5_1) 0 (wrap64 (a1 - 1)) true _ A5.out).mono ?_); rintro e w' ⟨rfl, ⟨nd, rfl⟩⟩; (try first | exact ⟨rfl, _, World.drewN_drewN _ _ _⟩ | exact ⟨rfl, _, Eq.trans (World.drewN_drewN _ _ _) (congrArg (World.drewN _) (Nat.add_assoc _ _ _))⟩))))
   go_roundg k1
   case measure => have := HK1.out; omega
   case rel => exact ⟨(wrap64 (x5_1 + 1)), (by rfl), H', ⟨by have := HK1.out; omega⟩, by repeat (first | exact Drawn0.refl _ | apply Drawn0.step)⟩
  rw [if_pos c7] at H
  have c7b0 : decide (0 < x5_1) = true := decide_eq_true c7
  clear c7
  obtain ⟨ji8, hji8⟩ : ∃ j_ : Int, (wrap64 (x5_1 - 1)) = j_ := ⟨_, rfl⟩
  replace H : (if 0 ≤ (ji8) then (if (ji8) < (l0.length : Int) then (if (rd l0 (ji8)) ≥ (rd l0 x5_1) then (some false) else (spec_l06Rising.l0 k1 l0 a1 (wrap64 (x5_1 + 1)))) else (none)) else (none)) = some r := by (rw [hji8] at H; exact H)
  (try rw [hji8] at A5)
  have hji8w : (IntKind.i64.wrap (x5_1 - 1)) = ji8 := (i64_w _).trans hji8
  by_cases c9 : 0 ≤ (ji8)
  rotate_left
  ·rw [if_neg c9] at H
   exact absurd H (by simp)
  rw [if_pos c9] at H
  have c9b0 : decide (0 ≤ (ji8)) = true := decide_eq_true c9
  clear c9
  by_cases c10 : (ji8) < (l0.length : Int)
  rotate_left
  ·rw [if_neg c10] at H
   exact absurd H (by simp)
  rw [if_pos c10] at H
  have c10b0 : decide ((ji8) < (l0.length : Int)) = true := decide_eq_true c10
  clear c10
  by_cases c11 : (rd l0 (ji8)) ≥ (rd l0 x5_1)
  ·rw [if_pos c11] at H
   have c11b0 : decide ((rd l0 x5_1) ≤ (rd l0 (ji8))) = true := decide_eq_true c11
   clear c11
   obtain rfl := Option.some.inj H
   have p203 : 0 ≤ (x5_1 : Int) := oD ‹_›
   have q203 : x5_1 < (l0.length : Int) := oD ‹_›
   obtain ⟨ad203, e203, hx203_0⟩ := Kd.at_int HR0.out x5_1 p203 q203
   cases e203
   replace p203 := eq_true p203
   replace q203 := eq_true q203
   have p205 : 0 ≤ ((ji8) : Int) := oD ‹_›
   have q205 : (ji8) < (l0.length : Int) := oD ‹_›
   obtain ⟨ad205, e205, hx205_0⟩ := Kd.at_int HR0.out (ji8) p205 q205
   obtain rfl : ad203 = ad205 := (by injection e205)
   replace p205 := eq_true p205
   replace q205 := eq_true q205
   go_wp2_with (first | (go_at_call 28; (with_reducible refine (spec_l01In.calls (rd l0 x5_1) 0 (wrap64 (a1 - 1)) true _ A5.out).mono ?_); rintro e w' ⟨rfl, ⟨nd, rfl⟩⟩; (try first | exact ⟨rfl, _, World.drewN_drewN _ _ _⟩ | exact ⟨rfl, _, Eq.trans (World.drewN_drewN _ _ _) (congrArg (World.drewN _) (Nat.add_assoc _ _ _))⟩)))
   repeat (go_quiet ((go_at_call 28; (with_reducible refine (spec_l01In.calls (rd l0 x5_1) 0 (wrap64 (a1 - 1)) true _ A5.out).mono ?_); rintro e w' ⟨rfl, ⟨nd, rfl⟩⟩; (try exact ⟨rfl, _, Eq.trans (World.drewN_drewN _ _ _) (congrArg (World.drewN _) (Nat.add_assoc _ _ _))⟩))); try go_wp2_with (first | (go_at_call 28; (with_reducible refine (spec_l01In.calls (rd l0 x5_1) 0 (wrap64 (a1 - 1)) true _ A5.out).mono ?_); rintro e w' ⟨rfl, ⟨nd, rfl⟩⟩; (try first | exact ⟨rfl, _, World.drewN_drewN _ _ _⟩ | exact ⟨rfl, _, Eq.trans (World.drewN_drewN _ _ _) (congrArg (World.drewN _) (Nat.add_assoc _ _ _))⟩))))
   go_ret
   exact ⟨by rfl, by repeat (first | exact Drawn0.refl _ | apply Drawn0.step)⟩
  rw [if_neg c11] at H
  have c11b0 : decide ((rd l0 x5_1) ≤ (rd l0 (ji8))) = false := decide_eq_false c11
  clear c11
  have H' := aM H
  clear H
  have p203 : 0 ≤ (x5_1 : Int) := oD ‹_›
  have q203 : x5_1 < (l0.length : Int) := oD ‹_›
  obtain ⟨ad203, e203, hx203_0⟩ := Kd.at_int HR0.out x5_1 p203 q203
  cases e203
  replace p203 := eq_true p203
  replace q203 := eq_true q203
  have p205 : 0 ≤ ((ji8) : Int) := oD ‹_›
  have q205 : (ji8) < (l0.length : Int) := oD ‹_›
  obtain ⟨ad205, e205, hx205_0⟩ := Kd.at_int HR0.out (ji8) p205 q205
  obtain rfl : ad203 = ad205 := (by injection e205)
  replace p205 := eq_true p205
  replace q205 := eq_true q205
  go_wp2_with (first | (go_at_call 28; (with_reducible refine (spec_l01In.calls (rd l0 x5_1) 0 (wrap64 (a1 - 1)) true _ A5.out).mono ?_); rintro e w' ⟨rfl, ⟨nd, rfl⟩⟩; (try first | exact ⟨rfl, _, World.drewN_drewN _ _ _⟩ | exact ⟨rfl, _, Eq.trans (World.drewN_drewN _ _ _) (congrArg (World.drewN _) (Nat.add_assoc _ _ _))⟩)))
  repeat (go_quiet ((go_at_call 28; (with_reducible refine (spec_l01In.calls (rd l0 x5_1) 0 (wrap64 (a1 - 1)) true _ A5.out).mono ?_); rintro e w' ⟨rfl, ⟨nd, rfl⟩⟩; (try exact ⟨rfl, _, Eq.trans (World.drewN_drewN _ _ _) (congrArg (World.drewN _) (Nat.add_assoc _ _ _))⟩))); try go_wp2_with (first | (go_at_call 28; (with_reducible refine (spec_l01In.calls (rd l0 x5_1) 0 (wrap64 (a1 - 1)) true _ A5.out).mono ?_); rintro e w' ⟨rfl, ⟨nd, rfl⟩⟩; (try first | exact ⟨rfl, _, World.drewN_drewN _ _ _⟩ | exact ⟨rfl, _, Eq.trans (World.drewN_drewN _ _ _) (congrArg (World.drewN _) (Nat.add_assoc _ _ _))⟩))))
  go_roundg k1
  case measure => have := HK1.out; omega
  case rel => exact ⟨(wrap64 (x5_1 + 1)), (by rfl), H', ⟨by have := HK1.out; omega⟩, by repeat (first | exact Drawn0.refl _ | apply Drawn0.step)⟩
def spec_l00Letter.f (a0 : Int) : Option (Bool) := if a0 ≥ 97 then (if a0 ≤ 122 then (some true) else (if a0 ≥ 65 then (if a0 ≤ 90 then (some true) else (some (a0 == 95))) else (some (a0 == 95)))) else (if a0 ≥ 65 then (if a0 ≤ 90 then (some true) else (some (a0 == 95))) else (some (a0 == 95)))
theorem spec_l00Letter.calls (a0 : Int) (r : Bool) (w : World) (h : spec_l00Letter.f a0 = some r) :
  Calls Tryd.prog 66 #[.int .u8 a0] w fun e w' => e = .returned (.bool r) ∧ Drawn0 w w' := by
 have H : (if a0 ≥ 97 then (if a0 ≤ 122 then (some true) else (if a0 ≥ 65 then (if a0 ≤ 90 then (some true) else (some (a0 == 95))) else (some (a0 == 95)))) else (if a0 ≥ 65 then (if a0 ≤ 90 then (some true) else (some (a0 == 95))) else (some (a0 == 95)))) = some r := h
 clear h
 by_cases c2 : a0 ≥ 97
 rotate_left
 ·rw [if_neg c2] at H
  have c2b0 : decide (97 ≤ a0) = false := decide_eq_false c2
  clear c2
  by_cases c6 : a0 ≥ 65
  rotate_left
  ·rw [if_neg c6] at H
   have c6b0 : decide (65 ≤ a0) = false := decide_eq_false c6
   clear c6
   obtain rfl := Option.some.inj H
   go_enter Tryd.func66, Tryd.ntmps66
   go_wp2
   go_ret
   exact ⟨by rfl, by repeat (exact Drawn0.refl _)⟩
  rw [if_pos c6] at H
  have c6b0 : decide (65 ≤ a0) = true := decide_eq_true c6
  clear c6
  by_cases c7 : a0 ≤ 90
  ·rw [if_pos c7] at H
   have c7b0 : decide (a0 ≤ 90) = true := decide_eq_true c7
   clear c7
   obtain rfl := Option.some.inj H
   go_enter Tryd.func66, Tryd.ntmps66
   go_wp2
   go_ret
   exact ⟨by rfl, by repeat (exact Drawn0.refl _)⟩
  rw [if_neg c7] at H
  have c7b0 : decide (a0 ≤ 90) = false := decide_eq_false c7
  clear c7
  obtain rfl := Option.some.inj H
  go_enter Tryd.func66, Tryd.ntmps66
  go_wp2
  go_ret
  exact ⟨by rfl, by repeat (exact Drawn0.refl _)⟩
 rw [if_pos c2] at H
 have c2b0 : decide (97 ≤ a0) = true := decide_eq_true c2
 clear c2
 by_cases c3 : a0 ≤ 122
 ·rw [if_pos c3] at H
  have c3b0 : decide (a0 ≤ 122) = true := decide_eq_true c3
  clear c3
  obtain rfl := Option.some.inj H
  go_enter Tryd.func66, Tryd.ntmps66
  go_wp2
  go_ret
  exact ⟨by rfl, by repeat (exact Drawn0.refl _)⟩
 rw [if_neg c3] at H
 have c3b0 : decide (a0 ≤ 122) = false := decide_eq_false c3
 clear c3
 by_cases c4 : a0 ≥ 65
 rotate_left
 ·rw [if_neg c4] at H
  have c4b0 : decide (65 ≤ a0) = false := decide_eq_false c4
  clear c4
  obtain rfl := Option.some.inj H
  go_enter Tryd.func66, Tryd.ntmps66
  go_wp2
  go_ret
  exact ⟨by rfl, by repeat (exact Drawn0.refl _)⟩
 rw [if_pos c4] at H
 have c4b0 : decide (65 ≤ a0) = true := decide_eq_true c4
 clear c4
 by_cases c5 : a0 ≤ 90
 ·rw [if_pos c5] at H
  have c5b0 : decide (a0 ≤ 90) = true := decide_eq_true c5
  clear c5
  obtain rfl := Option.some.inj H
  go_enter Tryd.func66, Tryd.ntmps66
  go_wp2
  go_ret
  exact ⟨by rfl, by repeat (exact Drawn0.refl _)⟩
 rw [if_neg c5] at H
 have c5b0 : decide (a0 ≤ 90) = false := decide_eq_false c5
 clear c5
 obtain rfl := Option.some.inj H
 go_enter Tryd.func66, Tryd.ntmps66
 go_wp2
 go_ret
 exact ⟨by rfl, by repeat (exact Drawn0.refl _)⟩
def spec_l00Digit.f (a0 : Int) : Option (Bool) := if a0 ≥ 48 then (some (decide (a0 ≤ 57))) else (some false)
theorem spec_l00Digit.calls (a0 : Int) (r : Bool) (w : World) (h : spec_l00Digit.f a0 = some r) :
  Calls Tryd.prog 67 #[.int .u8 a0] w fun e w' => e = .returned (.bool r) ∧ Drawn0 w w' := by
 have H : (if a0 ≥ 48 then (some (decide (a0 ≤ 57))) else (some false)) = some r := h
 clear h
 by_cases c2 : a0 ≥ 48
 ·rw [if_pos c2] at H
  have c2b0 : decide (48 ≤ a0) = true := decide_eq_true c2
  clear c2
  obtain rfl := Option.some.inj H
  go_enter Tryd.func67, Tryd.ntmps67
  go_wp2
  go_ret
  exact ⟨by rfl, by repeat (exact Drawn0.refl _)⟩
 rw [if_neg c2] at H
 have c2b0 : decide (48 ≤ a0) = false := decide_eq_false c2
 clear c2
 obtain rfl := Option.some.inj H
 go_enter Tryd.func67, Tryd.ntmps67
 go_wp2
 go_ret
 exact ⟨by rfl, by repeat (exact Drawn0.refl _)⟩
mutual
def spec_l00Word.j0 : Nat → ByteArray → Bool → Option (Bool)
 | 0, _, _ => none
 | k + 1, x0, x17 => if x17 = true then (some false) else (spec_l00Word.l0 k x0 1)
def spec_l00Word.l0 : Nat → ByteArray → Int → Option (Bool)
 | 0, _, _ => none
 | k + 1, x0, x3 => if x3 < (x0.size : Int) then (if 0 ≤ x3 then ((spec_l00Letter.f (bt x0 x3)).bind fun t208 => (if t208 = true then (spec_l00Word.l0 k x0 (wrap64 (x3 + 1))) else ((spec_l00Digit.f (bt x0 x3)).bind fun t209 => (if t209 = true then (spec_l00Word.l0 k x0 (wrap64 (x3 + 1))) else (some false))))) else (none)) else (some true)
end
def spec_l00Word.f (k : Nat) (a0 : ByteArray) : Option (Bool) := if (a0.size : Int) < 1 then (spec_l00Word.j0 k a0 true) else (if (a0.size : Int) > 40 then (spec_l00Word.j0 k a0 true) else (if 0 < (a0.size : Int) then ((spec_l00Letter.f (bt a0 0)).bind fun t207 => (spec_l00Word.j0 k a0 (!t207))) else (none)))
theorem spec_l00Word.calls (k : Nat) (a0 : ByteArray) (r : Bool) (w : World) (h : spec_l00Word.f k a0 = some r) :
  Calls Tryd.prog 57 #[.string a0] w fun e w' => e = .returned (.bool r) ∧ Drawn0 w w' := by
 have H : (if (a0.size : Int) < 1 then (spec_l00Word.j0 k a0 true) else (if (a0.size : Int) > 40 then (spec_l00Word.j0 k a0 true) else (if 0 < (a0.size : Int) then ((spec_l00Letter.f (bt a0 0)).bind fun t207 => (spec_l00Word.j0 k a0 (!t207))) else (none)))) = some r := h
 clear h
 have HC2 := aM H
 clear H
 go_enter Tryd.func57, Tryd.ntmps57
 go_upto_region 1 with (fail)
 go_cut [17] (fun v17 wc => ∃ (kq : Nat) (x17_1 : Bool), v17 = .bool x17_1 ∧ Aside0 (spec_l00Word.j0 kq a0 x17_1 = some r) ∧ Aside0 (kq ≤ k) ∧ Drawn0 w wc)
 case first =>
  have H := HC2.out
  clear HC2
  by_cases c3 : (a0.size : Int) < 1
  ·rw [if_pos c3] at H
   have c3b0 : decide ((a0.size : Int) < 1) = true := decide_eq_true c3
   have c3b1 : decide (a0.size < 1) = true := decide_eq_true (by omega)
   clear c3
   (skip)
   have H' := aM H
   clear H
   go_wp2
   go_meet
   case rel => exact ⟨_, (true), (by rfl), H', ⟨by omega⟩, by repeat (exact Drawn0.refl _)⟩
  rw [if_neg c3] at H
  have c3b0 : decide ((a0.size : Int) < 1) = false := decide_eq_false c3
  have c3b1 : decide (a0.size < 1) = false := decide_eq_false (by omega)
  clear c3
  (skip)
  by_cases c4 : (a0.size : Int) > 40
  ·rw [if_pos c4] at H
   have c4b0 : decide (40 < (a0.size : Int)) = true := decide_eq_true c4
   have c4b1 : decide (40 < a0.size) = true := decide_eq_true (by omega)
   clear c4
   have H' := aM H
   clear H
   go_wp2
   go_meet
   case rel => exact ⟨_, (true), (by rfl), H', ⟨by omega⟩, by repeat (exact Drawn0.refl _)⟩
  rw [if_neg c4] at H
  have c4b0 : decide (40 < (a0.size : Int)) = false := decide_eq_false c4
  have c4b1 : decide (40 < a0.size) = false := decide_eq_false (by omega)
  clear c4
  by_cases c5 : 0 < (a0.size : Int)
  rotate_left
  ·rw [if_neg c5] at H
   exact absurd H (by simp)
  rw [if_pos c5] at H
  have c5b0 : decide (0 < (a0.size : Int)) = true := decide_eq_true c5
  have c5b1 : decide (0 < a0.size) = true := decide_eq_true (by omega)
  clear c5
  replace H := bS H
  obtain ⟨t207, A70, H⟩ := H
  replace H : (spec_l00Word.j0 k a0 (!t207)) = some r := H
  have A7 := aM A70
  clear A70
  have H' := aM H
  clear H
  have p6 : 0 ≤ (0 : Int) := (by omega)
  have q6 : 0 < a0.size := (by have : (0 : Int) < (a0.size : Int) := oD ‹_›; omega)
  have hx6 : ∀ h : 0 < a0.size, ((a0[0]'h).toNat : Int) = bt a0 0 := bt_at a0 0
  clear p6
  have qi6 : (0 < (a0.size : Int)) = True := eq_true (oD ‹_›)
  replace q6 := eq_true q6
  go_wp2_with ((go_at_call 66; (with_reducible refine (spec_l00Letter.calls (bt a0 0) t207 _ A7.out).mono ?_); rintro e w' ⟨rfl, ⟨nd, rfl⟩⟩))
  go_meet
  case rel => exact ⟨_, (!t207), (by rfl), H', ⟨by omega⟩, by repeat (first | exact Drawn0.refl _ | apply Drawn0.step)⟩
 clear HC2
 obtain ⟨kq, x17_1, rfl, HA, HJ1, ⟨mc1, rfl⟩⟩ := hcut
 cases kq with
 | zero => exact absurd HA.out (by simp [spec_l00Word.j0])
 | succ kj1 =>
  have H := HA.out
  clear HA
  simp only [spec_l00Word.j0] at H
  by_cases c8 : x17_1 = true
  ·subst c8
   rw [if_pos rfl] at H
   obtain rfl := Option.some.inj H
   go_wp2
   go_ret
   exact ⟨by rfl, by repeat (first | exact Drawn0.refl _ | apply Drawn0.step)⟩
  replace c8 := Bool.eq_false_iff.mpr c8
  subst c8
  rw [if_neg (show ¬ (false = true) by decide)] at H
  have H' := aM H
  clear H
  go_wp2
  go_loopg [3] kj1 (fun kq v3 w' => ∃ (x3_2 : Int), v3 = .int .i64 x3_2 ∧ Aside0 (spec_l00Word.l0 kq a0 x3_2 = some r) ∧ Aside0 (kq ≤ kj1) ∧ Drawn0 w w')
  case atStart => exact ⟨(1), (by rfl), H', ⟨Nat.le_refl _⟩, by repeat (first | exact Drawn0.refl _ | apply Drawn0.step)⟩
  clear H'
  obtain ⟨x3_2, rfl, HA, HK2, ⟨m2, rfl⟩⟩ := hrel
  cases gk with
  | zero => exact absurd HA.out (by simp [spec_l00Word.l0])
  | succ k2 =>
   have H := HA.out
   clear HA
   simp only [spec_l00Word.l0] at H
   by_cases c9 : x3_2 < (a0.size : Int)
   rotate_left
   ·rw [if_neg c9] at H
    have c9b0 : decide (x3_2 < (a0.size : Int)) = false := decide_eq_false c9
    clear c9
    obtain rfl := Option.some.inj H
    go_wp2
    go_ret
    exact ⟨by rfl, by repeat (first | exact Drawn0.refl _ | apply Drawn0.step)⟩
   rw [if_pos c9] at H
   have c9b0 : decide (x3_2 < (a0.size : Int)) = true := decide_eq_true c9
   clear c9
   by_cases c10 : 0 ≤ x3_2
   rotate_left
   ·rw [if_neg c10] at H
    exact absurd H (by simp)
   rw [if_pos c10] at H
   have c10b0 : decide (0 ≤ x3_2) = true := decide_eq_true c10
   clear c10
   replace H := bS H
   obtain ⟨t208, A120, H⟩ := H
   replace H : (if t208 = true then (spec_l00Word.l0 k2 a0 (wrap64 (x3_2 + 1))) else ((spec_l00Digit.f (bt a0 x3_2)).bind fun t209 => (if t209 = true then (spec_l00Word.l0 k2 a0 (wrap64 (x3_2 + 1))) else (some false)))) = some r := H
   have A12 := aM A120
   clear A120
   by_cases c13 : t208 = true
   ·subst c13
    rw [if_pos rfl] at H
    have H' := aM H
    clear H
    have p11 : 0 ≤ (x3_2 : Int) := oD ‹_›
    have q11 : x3_2 < (a0.size : Int) := oD ‹_›
    have hx11 := bt_at a0 x3_2
    replace p11 := eq_true p11
    replace q11 := eq_true q11
    go_wp2_with ((go_at_call 66; (with_reducible refine (spec_l00Letter.calls (bt a0 x3_2) true _ A12.out).mono ?_); rintro e w' ⟨rfl, ⟨nd, rfl⟩⟩))
    go_roundg k2
    case measure => have := HJ1.out; have := HK2.out; omega
    case rel => exact ⟨(wrap64 (x3_2 + 1)), (by rfl), H', ⟨by have := HJ1.out; have := HK2.out; omega⟩, by repeat (first | exact Drawn0.refl _ | apply Drawn0.step)⟩
   replace c13 := Bool.eq_false_iff.mpr c13
   subst c13
   rw [if_neg (show ¬ (false = true) by decide)] at H
   replace H := bS H
   obtain ⟨t209, A150, H⟩ := H
   replace H : (if t209 = true then (spec_l00Word.l0 k2 a0 (wrap64 (x3_2 + 1))) else (some false)) = some r := H
   have A15 := aM A150
   clear A150
   by_cases c16 : t209 = true
   rotate_left
   ·replace c16 := Bool.eq_false_iff.mpr c16
    subst c16
    rw [if_neg (show ¬ (false = true) by decide)] at H
    obtain rfl := Option.some.inj H
    have p11 : 0 ≤ (x3_2 : Int) := oD ‹_›
    have q11 : x3_2 < (a0.size : Int) := oD ‹_›
    have hx11 := bt_at a0 x3_2
    replace p11 := eq_true p11
    replace q11 := eq_true q11
    go_wp2_with (first | (go_at_call 66; (with_reducible refine (spec_l00Letter.calls (bt a0 x3_2) false _ A12.out).mono ?_); rintro e w' ⟨rfl, ⟨nd, rfl⟩⟩; have p14 : 0 ≤ (x3_2 : Int) := oD ‹_›; have q14 : x3_2 < (a0.size : Int) := oD ‹_›; have hx14 := bt_at a0 x3_2; replace p14 := eq_true p14; replace q14 := eq_true q14) | (go_at_call 67; (with_reducible refine (spec_l00Digit.calls (bt a0 x3_2) false _ A15.out).mono ?_); rintro e w' ⟨rfl, ⟨nd, rfl⟩⟩))
    go_ret
    exact ⟨by rfl, by repeat (first | exact Drawn0.refl _ | apply Drawn0.step)⟩
   subst c16
   rw [if_pos rfl] at H
   have H' := aM H
   clear H
   have p11 : 0 ≤ (x3_2 : Int) := oD ‹_›
   have q11 : x3_2 < (a0.size : Int) := oD ‹_›
   have hx11 := bt_at a0 x3_2
   replace p11 := eq_true p11
   replace q11 := eq_true q11
   go_wp2_with (first | (go_at_call 66; (with_reducible refine (spec_l00Letter.calls (bt a0 x3_2) false _ A12.out).mono ?_); rintro e w' ⟨rfl, ⟨nd, rfl⟩⟩; have p14 : 0 ≤ (x3_2 : Int) := oD ‹_›; have q14 : x3_2 < (a0.size : Int) := oD ‹_›; have hx14 := bt_at a0 x3_2; replace p14 := eq_true p14; replace q14 := eq_true q14) | (go_at_call 67; (with_reducible refine (spec_l00Digit.calls (bt a0 x3_2) true _ A15.out).mono ?_); rintro e w' ⟨rfl, ⟨nd, rfl⟩⟩))
   go_roundg k2
   case measure => have := HJ1.out; have := HK2.out; omega
   case rel => exact ⟨(wrap64 (x3_2 + 1)), (by rfl), H', ⟨by have := HJ1.out; have := HK2.out; omega⟩, by repeat (first | exact Drawn0.refl _ | apply Drawn0.step)⟩
def spec_NameOK.f (k : Nat) (a0 : ByteArray) : Option (Bool) := (spec_l00Word.f k a0).bind fun t210 => (some t210)
theorem spec_NameOK.calls (k : Nat) (a0 : ByteArray) (r : Bool) (w : World) (h : spec_NameOK.f k a0 = some r) :
  Calls Tryd.prog 30 #[.string a0] w fun e w' => e = .returned (.bool r) ∧ Drawn0 w w' := by
 have H : ((spec_l00Word.f k a0).bind fun t210 => (some t210)) = some r := h
 clear h
 replace H := bS H
 obtain ⟨t210, A20, H⟩ := H
 replace H : (some t210) = some r := H
 have A2 := aM A20
 clear A20
 obtain rfl := Option.some.inj H
 go_enter Tryd.func30, Tryd.ntmps30
 go_wp2_with ((go_at_call 57; (with_reducible refine (spec_l00Word.calls k a0 t210 _ A2.out).mono ?_); rintro e w' ⟨rfl, ⟨nd, rfl⟩⟩))
 go_ret
 exact ⟨by rfl, by repeat (first | exact Drawn0.refl _ | apply Drawn0.step)⟩
def spec_l06Place.l0 : Nat → List ByteArray → ByteArray → Int → Option (Int)
 | 0, _, _, _ => none
 | k + 1, x0, x1, x5 => if x5 < (x0.length : Int) then (if 0 ≤ x5 then (if (rdOf ByteArray.empty x0 x5).toList = x1.toList then (some x5) else (spec_l06Place.l0 k x0 x1 (wrap64 (x5 + 1)))) else (none)) else (some (-1))
def spec_l06Place.f (k : Nat) (l0 : List ByteArray) (a1 : ByteArray) : Option (Int) := spec_l06Place.l0 k l0 a1 0
theorem spec_l06Place.calls (k : Nat) (A0 : Option Addr) (c0 : Nat) (l0 : List ByteArray) (a1 : ByteArray) (r : Int) (w : World) (hr0 : Kd.C Kd.string w A0 l0.length l0) (hc0 : l0.length ≤ c0) (h : spec_l06Place.f k l0 a1 = some r) :
  Calls Tryd.prog 31 #[.slice A0 l0.length c0, .string a1] w fun e w' => e = .returned (.int .i64 r) ∧ Drawn0 w w' := by
 have HR0 := aM hr0
 have HC0 := aM hc0
 clear hr0 hc0
 have H : (spec_l06Place.l0 k l0 a1 0) = some r := h
 clear h
 have H' := aM H
 clear H
 go_enter Tryd.func31, Tryd.ntmps31
 go_wp2
 go_loopg [5] k (fun kq v5 w' => ∃ (x5_1 : Int), v5 = .int .i64 x5_1 ∧ Aside0 (spec_l06Place.l0 kq l0 a1 x5_1 = some r) ∧ Aside0 (kq ≤ k) ∧ Drawn0 w w')
 case atStart => exact ⟨(0), (by rfl), H', ⟨Nat.le_refl _⟩, by repeat (exact Drawn0.refl _)⟩
 clear H'
 obtain ⟨x5_1, rfl, HA, HK1, ⟨m1, rfl⟩⟩ := hrel
 cases gk with
 | zero => exact absurd HA.out (by simp [spec_l06Place.l0])
 | succ k1 =>
  have H := HA.out
  clear HA
  simp only [spec_l06Place.l0] at H
  by_cases c3 : x5_1 < (l0.length : Int)
  rotate_left
  ·rw [if_neg c3] at H
   have c3b0 : decide (x5_1 < (l0.length : Int)) = false := decide_eq_false c3
   clear c3
   obtain rfl := Option.some.inj H
   go_wp2
   go_ret
   exact ⟨by rfl, by repeat (first | exact Drawn0.refl _ | apply Drawn0.step)⟩
  rw [if_pos c3] at H
  have c3b0 : decide (x5_1 < (l0.length : Int)) = true := decide_eq_true c3
  clear c3
  by_cases c4 : 0 ≤ x5_1
  rotate_left
  ·rw [if_neg c4] at H
   exact absurd H (by simp)
  rw [if_pos c4] at H
  have c4b0 : decide (0 ≤ x5_1) = true := decide_eq_true c4
  clear c4
  by_cases c5 : (rdOf ByteArray.empty l0 x5_1).toList = a1.toList
  ·rw [if_pos c5] at H
   have c5b0 : ((rdOf ByteArray.empty l0 x5_1).toList == a1.toList) = true := beq_iff_eq.mpr c5
   have c5b1 : ((rdOf ByteArray.empty l0 x5_1).toList != a1.toList) = false := bne_eq_false_iff_eq.mpr c5
   clear c5
   obtain rfl := Option.some.inj H
   have p211 : 0 ≤ (x5_1 : Int) := oD ‹_›
   have q211 : x5_1 < (l0.length : Int) := oD ‹_›
   obtain ⟨ad211, e211, hx211_0⟩ := Kd.at_string HR0.out x5_1 p211 q211
   cases e211
   replace p211 := eq_true p211
   replace q211 := eq_true q211
   go_wp2
   go_ret
   exact ⟨by rfl, by repeat (first | exact Drawn0.refl _ | apply Drawn0.step)⟩
  rw [if_neg c5] at H
  have c5b0 : ((rdOf ByteArray.empty l0 x5_1).toList == a1.toList) = false := beq_eq_false_iff_ne.mpr c5
  have c5b1 : ((rdOf ByteArray.empty l0 x5_1).toList != a1.toList) = true := bne_iff_ne.mpr c5
  have H' := aM H
  clear H
  have p211 : 0 ≤ (x5_1 : Int) := oD ‹_›
  have q211 : x5_1 < (l0.length : Int) := oD ‹_›
  obtain ⟨ad211, e211, hx211_0⟩ := Kd.at_string HR0.out x5_1 p211 q211
  cases e211
  replace p211 := eq_true p211
  replace q211 := eq_true q211
  go_wp2
  go_roundg k1
  case measure => have := HK1.out; omega
  case rel => exact ⟨(wrap64 (x5_1 + 1)), (by rfl), H', ⟨by have := HK1.out; omega⟩, by repeat (first | exact Drawn0.refl _ | apply Drawn0.step)⟩
end Go.Proofs.YtgibacfgjmdjdaaDoor.PFnExactIsStable
end
