/- FnExactNeighbours: for every input the law returns true. The texts that this program's session printed and proved for it, those that the proof uses, laid together. Conditions: the form's own reach alone. -/
import Derived.Test.YtgibacfgjmdjdaaQFnExactNeighbours3
section
namespace Go.Proofs.Ytgibacfgjmdjdaa.PFnExactNeighbours
open Go.RowKit Go.Proofs.YtgibacfgjmdjdaaW.PrintWords Go.Proofs.YtgibacfgjmdjdaaW.PrintLast Go.Proofs.YtgibacfgjmdjdaaW.PrintMore
attribute [local go_sem] max2_int min2_int max_two min_two max_three min_three max_four min_four   -- for this text's walks alone
set_option linter.unusedVariables false
set_option linter.unusedSimpArgs false
def impl_NameOK.l0 : Nat → ByteArray → Int → Int → Option (Bool)
 | 0, _, _, _ => none
 | k + 1, x0, x8, x9 => if x9 < x8 then (if 0 ≤ x9 then (if x9 < (x0.size : Int) then (if (bt x0 x9) ≥ 97 then (if (bt x0 x9) ≤ 122 then (if (bt x0 x9) ≥ 48 then (impl_NameOK.l0 k x0 x8 (wrap64 (x9 + 1))) else (impl_NameOK.l0 k x0 x8 (wrap64 (x9 + 1)))) else (if (bt x0 x9) ≥ 65 then (if (bt x0 x9) ≤ 90 then (if (bt x0 x9) ≥ 48 then (impl_NameOK.l0 k x0 x8 (wrap64 (x9 + 1))) else (impl_NameOK.l0 k x0 x8 (wrap64 (x9 + 1)))) else (if (bt x0 x9) ≥ 48 then (if ((bt x0 x9) = 95) then (impl_NameOK.l0 k x0 x8 (wrap64 (x9 + 1))) else (if x9 = 0 then (some false) else (if ((bt x0 x9) ≤ 57) then (impl_NameOK.l0 k x0 x8 (wrap64 (x9 + 1))) else (some false)))) else (if ((bt x0 x9) = 95) then (impl_NameOK.l0 k x0 x8 (wrap64 (x9 + 1))) else (if x9 = 0 then (some false) else (some false))))) else (if (bt x0 x9) ≥ 48 then (if ((bt x0 x9) = 95) then (impl_NameOK.l0 k x0 x8 (wrap64 (x9 + 1))) else (if x9 = 0 then (some false) else (if ((bt x0 x9) ≤ 57) then (impl_NameOK.l0 k x0 x8 (wrap64 (x9 + 1))) else (some false)))) else (if ((bt x0 x9) = 95) then (impl_NameOK.l0 k x0 x8 (wrap64 (x9 + 1))) else (if x9 = 0 then (some false) else (some false)))))) else (if (bt x0 x9) ≥ 65 then (if (bt x0 x9) ≤ 90 then (if (bt x0 x9) ≥ 48 then (impl_NameOK.l0 k x0 x8 (wrap64 (x9 + 1))) else (impl_NameOK.l0 k x0 x8 (wrap64 (x9 + 1)))) else (if (bt x0 x9) ≥ 48 then (if ((bt x0 x9) = 95) then (impl_NameOK.l0 k x0 x8 (wrap64 (x9 + 1))) else (if x9 = 0 then (some false) else (if ((bt x0 x9) ≤ 57) then (impl_NameOK.l0 k x0 x8 (wrap64 (x9 + 1))) else (some false)))) else (if ((bt x0 x9) = 95) then (impl_NameOK.l0 k x0 x8 (wrap64 (x9 + 1))) else (if x9 = 0 then (some false) else (some false))))) else (if (bt x0 x9) ≥ 48 then (if ((bt x0 x9) = 95) then (impl_NameOK.l0 k x0 x8 (wrap64 (x9 + 1))) else (if x9 = 0 then (some false) else (if ((bt x0 x9) ≤ 57) then (impl_NameOK.l0 k x0 x8 (wrap64 (x9 + 1))) else (some false)))) else (if ((bt x0 x9) = 95) then (impl_NameOK.l0 k x0 x8 (wrap64 (x9 + 1))) else (if x9 = 0 then (some false) else (some false)))))) else (none)) else (none)) else ((impl_within.f (x0.size : Int) 1 40).bind fun t247 => (some t247))
def impl_NameOK.f (k : Nat) (a0 : ByteArray) : Option (Bool) := impl_NameOK.l0 k a0 (a0.size : Int) 0
set_option maxHeartbeats 8000000 in
set_option maxRecDepth 100000 in
theorem impl_NameOK.calls (k : Nat) (a0 : ByteArray) (r : Bool) (w : World) (h : impl_NameOK.f k a0 = some r) :
  Calls Try.prog 87 #[.string a0] w fun e w' => e = .returned (.bool r) ∧ Drawn0 w w' := by
 have H : (impl_NameOK.l0 k a0 (a0.size : Int) 0) = some r := h
 clear h
 have H' := Aside0.mk H
 clear H
 go_enter Try.func87, Try.ntmps87
 go_wp2
 go_loopg [9] k (fun kq v9 w' => ∃ (x9_1 : Int), v9 = .int .i64 x9_1 ∧ Aside0 (impl_NameOK.l0 kq a0 (a0.size : Int) x9_1 = some r) ∧ Aside0 (kq ≤ k) ∧ Drawn0 w w')
 case atStart => exact ⟨(0), (by first | rfl | (simp; done) | (simp [*]; done)), H', ⟨Nat.le_refl _⟩, by repeat (first | exact Drawn0.refl _ | apply Drawn0.step)⟩
 case round =>
  clear H'
  obtain ⟨x9_1, rfl, HA, HK1, ⟨m1, rfl⟩⟩ := hrel
  cases gk with
  | zero => exact absurd HA.out (by simp [impl_NameOK.l0])
  | succ k1 =>
   have H := HA.out
   clear HA
   simp only [impl_NameOK.l0] at H
   by_cases c2 : x9_1 < (a0.size : Int)
   ·rw [if_pos c2] at H
    have c2b0 : decide (x9_1 < (a0.size : Int)) = true := decide_eq_true c2
    clear c2
    by_cases c3 : 0 ≤ x9_1
    ·rw [if_pos c3] at H
     have c3b0 : decide (0 ≤ x9_1) = true := decide_eq_true c3
     clear c3
     by_cases c4 : x9_1 < (a0.size : Int)
     ·rw [if_pos c4] at H
      have c4b0 : decide (x9_1 < (a0.size : Int)) = true := decide_eq_true c4
      clear c4
      by_cases c6 : (bt a0 x9_1) ≥ 97
      ·rw [if_pos c6] at H
       have c6b0 : decide (97 ≤ (bt a0 x9_1)) = true := decide_eq_true c6
       clear c6
       by_cases c7 : (bt a0 x9_1) ≤ 122
       ·rw [if_pos c7] at H
        have c7b0 : decide ((bt a0 x9_1) ≤ 122) = true := decide_eq_true c7
        clear c7
        by_cases c9 : (bt a0 x9_1) ≥ 48
        ·rw [if_pos c9] at H
         have c9b0 : decide (48 ≤ (bt a0 x9_1)) = true := decide_eq_true c9
         clear c9
         have H' := Aside0.mk H
         clear H
         have p5 : 0 ≤ (x9_1 : Int) := of_decide_eq_true (by first | (with_reducible assumption) | assumption)
         have q5 : x9_1 < (a0.size : Int) := of_decide_eq_true (by first | (with_reducible assumption) | assumption)
         have hx5 := bt_at a0 x9_1
         replace p5 := eq_true p5
         replace q5 := eq_true q5
         have p8 : 0 ≤ (x9_1 : Int) := of_decide_eq_true (by first | (with_reducible assumption) | assumption)
         have q8 : x9_1 < (a0.size : Int) := of_decide_eq_true (by first | (with_reducible assumption) | assumption)
         have hx8 := bt_at a0 x9_1
         replace p8 := eq_true p8
         replace q8 := eq_true q8
         have p10 : 0 ≤ (x9_1 : Int) := of_decide_eq_true (by first | (with_reducible assumption) | assumption)
         have q10 : x9_1 < (a0.size : Int) := of_decide_eq_true (by first | (with_reducible assumption) | assumption)
         have hx10 := bt_at a0 x9_1
         replace p10 := eq_true p10
         replace q10 := eq_true q10
         go_wp2
         go_roundg k1
         case measure => have := HK1.out; omega
         case rel => exact ⟨(wrap64 (x9_1 + 1)), (by first | rfl | (simp; done) | (simp [*]; done)), H', ⟨by have := HK1.out; omega⟩, by repeat (first | exact Drawn0.refl _ | apply Drawn0.step)⟩
        ·rw [if_neg c9] at H
         have c9b0 : decide (48 ≤ (bt a0 x9_1)) = false := decide_eq_false c9
         clear c9
         have H' := Aside0.mk H
         clear H
         have p5 : 0 ≤ (x9_1 : Int) := of_decide_eq_true (by first | (with_reducible assumption) | assumption)
         have q5 : x9_1 < (a0.size : Int) := of_decide_eq_true (by first | (with_reducible assumption) | assumption)
         have hx5 := bt_at a0 x9_1
         replace p5 := eq_true p5
         replace q5 := eq_true q5
         have p8 : 0 ≤ (x9_1 : Int) := of_decide_eq_true (by first | (with_reducible assumption) | assumption)
         have q8 : x9_1 < (a0.size : Int) := of_decide_eq_true (by first | (with_reducible assumption) | assumption)
         have hx8 := bt_at a0 x9_1
         replace p8 := eq_true p8
         replace q8 := eq_true q8
         go_wp2
         go_roundg k1
         case measure => have := HK1.out; omega
         case rel => exact ⟨(wrap64 (x9_1 + 1)), (by first | rfl | (simp; done) | (simp [*]; done)), H', ⟨by have := HK1.out; omega⟩, by repeat (first | exact Drawn0.refl _ | apply Drawn0.step)⟩
       ·rw [if_neg c7] at H
        have c7b0 : decide ((bt a0 x9_1) ≤ 122) = false := decide_eq_false c7
        clear c7
        by_cases c11 : (bt a0 x9_1) ≥ 65
        ·rw [if_pos c11] at H
         have c11b0 : decide (65 ≤ (bt a0 x9_1)) = true := decide_eq_true c11
         clear c11
         by_cases c12 : (bt a0 x9_1) ≤ 90
         ·rw [if_pos c12] at H
          have c12b0 : decide ((bt a0 x9_1) ≤ 90) = true := decide_eq_true c12
          clear c12
          by_cases c14 : (bt a0 x9_1) ≥ 48
          ·rw [if_pos c14] at H
           have c14b0 : decide (48 ≤ (bt a0 x9_1)) = true := decide_eq_true c14
           clear c14
           have H' := Aside0.mk H
           clear H
           have p5 : 0 ≤ (x9_1 : Int) := of_decide_eq_true (by first | (with_reducible assumption) | assumption)
           have q5 : x9_1 < (a0.size : Int) := of_decide_eq_true (by first | (with_reducible assumption) | assumption)
           have hx5 := bt_at a0 x9_1
           replace p5 := eq_true p5
           replace q5 := eq_true q5
           have p13 : 0 ≤ (x9_1 : Int) := of_decide_eq_true (by first | (with_reducible assumption) | assumption)
           have q13 : x9_1 < (a0.size : Int) := of_decide_eq_true (by first | (with_reducible assumption) | assumption)
           have hx13 := bt_at a0 x9_1
           replace p13 := eq_true p13
           replace q13 := eq_true q13
           have p15 : 0 ≤ (x9_1 : Int) := of_decide_eq_true (by first | (with_reducible assumption) | assumption)
           have q15 : x9_1 < (a0.size : Int) := of_decide_eq_true (by first | (with_reducible assumption) | assumption)
           have hx15 := bt_at a0 x9_1
           replace p15 := eq_true p15
           replace q15 := eq_true q15
           go_wp2
           go_roundg k1
           case measure => have := HK1.out; omega
           case rel => exact ⟨(wrap64 (x9_1 + 1)), (by first | rfl | (simp; done) | (simp [*]; done)), H', ⟨by have := HK1.out; omega⟩, by repeat (first | exact Drawn0.refl _ | apply Drawn0.step)⟩
          ·rw [if_neg c14] at H
           have c14b0 : decide (48 ≤ (bt a0 x9_1)) = false := decide_eq_false c14
           clear c14
           have H' := Aside0.mk H
           clear H
           have p5 : 0 ≤ (x9_1 : Int) := of_decide_eq_true (by first | (with_reducible assumption) | assumption)
           have q5 : x9_1 < (a0.size : Int) := of_decide_eq_true (by first | (with_reducible assumption) | assumption)
           have hx5 := bt_at a0 x9_1
           replace p5 := eq_true p5
           replace q5 := eq_true q5
           have p13 : 0 ≤ (x9_1 : Int) := of_decide_eq_true (by first | (with_reducible assumption) | assumption)
           have q13 : x9_1 < (a0.size : Int) := of_decide_eq_true (by first | (with_reducible assumption) | assumption)
           have hx13 := bt_at a0 x9_1
           replace p13 := eq_true p13
           replace q13 := eq_true q13
           go_wp2
           go_roundg k1
           case measure => have := HK1.out; omega
           case rel => exact ⟨(wrap64 (x9_1 + 1)), (by first | rfl | (simp; done) | (simp [*]; done)), H', ⟨by have := HK1.out; omega⟩, by repeat (first | exact Drawn0.refl _ | apply Drawn0.step)⟩
         ·rw [if_neg c12] at H
          have c12b0 : decide ((bt a0 x9_1) ≤ 90) = false := decide_eq_false c12
          clear c12
          by_cases c17 : (bt a0 x9_1) ≥ 48
          ·rw [if_pos c17] at H
           have c17b0 : decide (48 ≤ (bt a0 x9_1)) = true := decide_eq_true c17
           clear c17
           by_cases c19 : ((bt a0 x9_1) = 95)
           ·rw [if_pos c19] at H
            have c19b0 : ((bt a0 x9_1) == 95) = true := beq_iff_eq.mpr c19
            have c19b1 : ((bt a0 x9_1) != 95) = false := bne_eq_false_iff_eq.mpr c19
            clear c19
            have H' := Aside0.mk H
            clear H
            have p5 : 0 ≤ (x9_1 : Int) := of_decide_eq_true (by first | (with_reducible assumption) | assumption)
            have q5 : x9_1 < (a0.size : Int) := of_decide_eq_true (by first | (with_reducible assumption) | assumption)
            have hx5 := bt_at a0 x9_1
            replace p5 := eq_true p5
            replace q5 := eq_true q5
            have p16 : 0 ≤ (x9_1 : Int) := of_decide_eq_true (by first | (with_reducible assumption) | assumption)
            have q16 : x9_1 < (a0.size : Int) := of_decide_eq_true (by first | (with_reducible assumption) | assumption)
            have hx16 := bt_at a0 x9_1
            replace p16 := eq_true p16
            replace q16 := eq_true q16
            have p18 : 0 ≤ (x9_1 : Int) := of_decide_eq_true (by first | (with_reducible assumption) | assumption)
            have q18 : x9_1 < (a0.size : Int) := of_decide_eq_true (by first | (with_reducible assumption) | assumption)
            have hx18 := bt_at a0 x9_1
            replace p18 := eq_true p18
            replace q18 := eq_true q18
            go_wp2
            go_roundg k1
            case measure => have := HK1.out; omega
            case rel => exact ⟨(wrap64 (x9_1 + 1)), (by first | rfl | (simp; done) | (simp [*]; done)), H', ⟨by have := HK1.out; omega⟩, by repeat (first | exact Drawn0.refl _ | apply Drawn0.step)⟩
           ·rw [if_neg c19] at H
            have c19b0 : ((bt a0 x9_1) == 95) = false := beq_eq_false_iff_ne.mpr c19
            have c19b1 : ((bt a0 x9_1) != 95) = true := bne_iff_ne.mpr c19
            by_cases c20 : x9_1 = 0
            ·rw [if_pos c20] at H
             have c20b0 : (x9_1 == 0) = true := beq_iff_eq.mpr c20
             have c20b1 : (x9_1 != 0) = false := bne_eq_false_iff_eq.mpr c20
             clear c20
             obtain rfl := Option.some.inj H
             have p5 : 0 ≤ (x9_1 : Int) := of_decide_eq_true (by first | (with_reducible assumption) | assumption)
             have q5 : x9_1 < (a0.size : Int) := of_decide_eq_true (by first | (with_reducible assumption) | assumption)
             have hx5 := bt_at a0 x9_1
             replace p5 := eq_true p5
             replace q5 := eq_true q5
             have p16 : 0 ≤ (x9_1 : Int) := of_decide_eq_true (by first | (with_reducible assumption) | assumption)
             have q16 : x9_1 < (a0.size : Int) := of_decide_eq_true (by first | (with_reducible assumption) | assumption)
             have hx16 := bt_at a0 x9_1
             replace p16 := eq_true p16
             replace q16 := eq_true q16
             have p18 : 0 ≤ (x9_1 : Int) := of_decide_eq_true (by first | (with_reducible assumption) | assumption)
             have q18 : x9_1 < (a0.size : Int) := of_decide_eq_true (by first | (with_reducible assumption) | assumption)
             have hx18 := bt_at a0 x9_1
             replace p18 := eq_true p18
             replace q18 := eq_true q18
             go_wp2
             go_ret
             exact ⟨by first | rfl | (simp; done) | (simp [*]; done), by repeat (first | exact Drawn0.refl _ | apply Drawn0.step)⟩
            ·rw [if_neg c20] at H
             have c20b0 : (x9_1 == 0) = false := beq_eq_false_iff_ne.mpr c20
             have c20b1 : (x9_1 != 0) = true := bne_iff_ne.mpr c20
             by_cases c21 : ((bt a0 x9_1) ≤ 57)
             ·rw [if_pos c21] at H
              have c21b0 : decide ((bt a0 x9_1) ≤ 57) = true := decide_eq_true c21
              clear c21
              have H' := Aside0.mk H
              clear H
              have p5 : 0 ≤ (x9_1 : Int) := of_decide_eq_true (by first | (with_reducible assumption) | assumption)
              have q5 : x9_1 < (a0.size : Int) := of_decide_eq_true (by first | (with_reducible assumption) | assumption)
              have hx5 := bt_at a0 x9_1
              replace p5 := eq_true p5
              replace q5 := eq_true q5
              have p16 : 0 ≤ (x9_1 : Int) := of_decide_eq_true (by first | (with_reducible assumption) | assumption)
              have q16 : x9_1 < (a0.size : Int) := of_decide_eq_true (by first | (with_reducible assumption) | assumption)
              have hx16 := bt_at a0 x9_1
              replace p16 := eq_true p16
              replace q16 := eq_true q16
              have p18 : 0 ≤ (x9_1 : Int) := of_decide_eq_true (by first | (with_reducible assumption) | assumption)
              have q18 : x9_1 < (a0.size : Int) := of_decide_eq_true (by first | (with_reducible assumption) | assumption)
              have hx18 := bt_at a0 x9_1
              replace p18 := eq_true p18
              replace q18 := eq_true q18
              go_wp2
              go_roundg k1
              case measure => have := HK1.out; omega
              case rel => exact ⟨(wrap64 (x9_1 + 1)), (by first | rfl | (simp; done) | (simp [*]; done)), H', ⟨by have := HK1.out; omega⟩, by repeat (first | exact Drawn0.refl _ | apply Drawn0.step)⟩
             ·rw [if_neg c21] at H
              have c21b0 : decide ((bt a0 x9_1) ≤ 57) = false := decide_eq_false c21
              clear c21
              obtain rfl := Option.some.inj H
              have p5 : 0 ≤ (x9_1 : Int) := of_decide_eq_true (by first | (with_reducible assumption) | assumption)
              have q5 : x9_1 < (a0.size : Int) := of_decide_eq_true (by first | (with_reducible assumption) | assumption)
              have hx5 := bt_at a0 x9_1
              replace p5 := eq_true p5
              replace q5 := eq_true q5
              have p16 : 0 ≤ (x9_1 : Int) := of_decide_eq_true (by first | (with_reducible assumption) | assumption)
              have q16 : x9_1 < (a0.size : Int) := of_decide_eq_true (by first | (with_reducible assumption) | assumption)
              have hx16 := bt_at a0 x9_1
              replace p16 := eq_true p16
              replace q16 := eq_true q16
              have p18 : 0 ≤ (x9_1 : Int) := of_decide_eq_true (by first | (with_reducible assumption) | assumption)
              have q18 : x9_1 < (a0.size : Int) := of_decide_eq_true (by first | (with_reducible assumption) | assumption)
              have hx18 := bt_at a0 x9_1
              replace p18 := eq_true p18
              replace q18 := eq_true q18
              go_wp2
              go_ret
              exact ⟨by first | rfl | (simp; done) | (simp [*]; done), by repeat (first | exact Drawn0.refl _ | apply Drawn0.step)⟩
          ·rw [if_neg c17] at H
           have c17b0 : decide (48 ≤ (bt a0 x9_1)) = false := decide_eq_false c17
           clear c17
           by_cases c22 : ((bt a0 x9_1) = 95)
           ·rw [if_pos c22] at H
            have c22b0 : ((bt a0 x9_1) == 95) = true := beq_iff_eq.mpr c22
            have c22b1 : ((bt a0 x9_1) != 95) = false := bne_eq_false_iff_eq.mpr c22
            clear c22
            have H' := Aside0.mk H
            clear H
            have p5 : 0 ≤ (x9_1 : Int) := of_decide_eq_true (by first | (with_reducible assumption) | assumption)
            have q5 : x9_1 < (a0.size : Int) := of_decide_eq_true (by first | (with_reducible assumption) | assumption)
            have hx5 := bt_at a0 x9_1
            replace p5 := eq_true p5
            replace q5 := eq_true q5
            have p16 : 0 ≤ (x9_1 : Int) := of_decide_eq_true (by first | (with_reducible assumption) | assumption)
            have q16 : x9_1 < (a0.size : Int) := of_decide_eq_true (by first | (with_reducible assumption) | assumption)
            have hx16 := bt_at a0 x9_1
            replace p16 := eq_true p16
            replace q16 := eq_true q16
            go_wp2
            go_roundg k1
            case measure => have := HK1.out; omega
            case rel => exact ⟨(wrap64 (x9_1 + 1)), (by first | rfl | (simp; done) | (simp [*]; done)), H', ⟨by have := HK1.out; omega⟩, by repeat (first | exact Drawn0.refl _ | apply Drawn0.step)⟩
           ·rw [if_neg c22] at H
            have c22b0 : ((bt a0 x9_1) == 95) = false := beq_eq_false_iff_ne.mpr c22
            have c22b1 : ((bt a0 x9_1) != 95) = true := bne_iff_ne.mpr c22
            by_cases c23 : x9_1 = 0
            ·rw [if_pos c23] at H
             have c23b0 : (x9_1 == 0) = true := beq_iff_eq.mpr c23
             have c23b1 : (x9_1 != 0) = false := bne_eq_false_iff_eq.mpr c23
             clear c23
             obtain rfl := Option.some.inj H
             have p5 : 0 ≤ (x9_1 : Int) := of_decide_eq_true (by first | (with_reducible assumption) | assumption)
             have q5 : x9_1 < (a0.size : Int) := of_decide_eq_true (by first | (with_reducible assumption) | assumption)
             have hx5 := bt_at a0 x9_1
             replace p5 := eq_true p5
             replace q5 := eq_true q5
             have p16 : 0 ≤ (x9_1 : Int) := of_decide_eq_true (by first | (with_reducible assumption) | assumption)
             have q16 : x9_1 < (a0.size : Int) := of_decide_eq_true (by first | (with_reducible assumption) | assumption)
             have hx16 := bt_at a0 x9_1
             replace p16 := eq_true p16
             replace q16 := eq_true q16
             go_wp2
             go_ret
             exact ⟨by first | rfl | (simp; done) | (simp [*]; done), by repeat (first | exact Drawn0.refl _ | apply Drawn0.step)⟩
            ·rw [if_neg c23] at H
             have c23b0 : (x9_1 == 0) = false := beq_eq_false_iff_ne.mpr c23
             have c23b1 : (x9_1 != 0) = true := bne_iff_ne.mpr c23
             obtain rfl := Option.some.inj H
             have p5 : 0 ≤ (x9_1 : Int) := of_decide_eq_true (by first | (with_reducible assumption) | assumption)
             have q5 : x9_1 < (a0.size : Int) := of_decide_eq_true (by first | (with_reducible assumption) | assumption)
             have hx5 := bt_at a0 x9_1
             replace p5 := eq_true p5
             replace q5 := eq_true q5
             have p16 : 0 ≤ (x9_1 : Int) := of_decide_eq_true (by first | (with_reducible assumption) | assumption)
             have q16 : x9_1 < (a0.size : Int) := of_decide_eq_true (by first | (with_reducible assumption) | assumption)
             have hx16 := bt_at a0 x9_1
             replace p16 := eq_true p16
             replace q16 := eq_true q16
             go_wp2
             go_ret
             exact ⟨by first | rfl | (simp; done) | (simp [*]; done), by repeat (first | exact Drawn0.refl _ | apply Drawn0.step)⟩
        ·rw [if_neg c11] at H
         have c11b0 : decide (65 ≤ (bt a0 x9_1)) = false := decide_eq_false c11
         clear c11
         by_cases c25 : (bt a0 x9_1) ≥ 48
         ·rw [if_pos c25] at H
          have c25b0 : decide (48 ≤ (bt a0 x9_1)) = true := decide_eq_true c25
          clear c25
          by_cases c27 : ((bt a0 x9_1) = 95)
          ·rw [if_pos c27] at H
           have c27b0 : ((bt a0 x9_1) == 95) = true := beq_iff_eq.mpr c27
           have c27b1 : ((bt a0 x9_1) != 95) = false := bne_eq_false_iff_eq.mpr c27
           clear c27
           have H' := Aside0.mk H
           clear H
           have p5 : 0 ≤ (x9_1 : Int) := of_decide_eq_true (by first | (with_reducible assumption) | assumption)
           have q5 : x9_1 < (a0.size : Int) := of_decide_eq_true (by first | (with_reducible assumption) | assumption)
           have hx5 := bt_at a0 x9_1
           replace p5 := eq_true p5
           replace q5 := eq_true q5
           have p24 : 0 ≤ (x9_1 : Int) := of_decide_eq_true (by first | (with_reducible assumption) | assumption)
           have q24 : x9_1 < (a0.size : Int) := of_decide_eq_true (by first | (with_reducible assumption) | assumption)
           have hx24 := bt_at a0 x9_1
           replace p24 := eq_true p24
           replace q24 := eq_true q24
           have p26 : 0 ≤ (x9_1 : Int) := of_decide_eq_true (by first | (with_reducible assumption) | assumption)
           have q26 : x9_1 < (a0.size : Int) := of_decide_eq_true (by first | (with_reducible assumption) | assumption)
           have hx26 := bt_at a0 x9_1
           replace p26 := eq_true p26
           replace q26 := eq_true q26
           go_wp2
           go_roundg k1
           case measure => have := HK1.out; omega
           case rel => exact ⟨(wrap64 (x9_1 + 1)), (by first | rfl | (simp; done) | (simp [*]; done)), H', ⟨by have := HK1.out; omega⟩, by repeat (first | exact Drawn0.refl _ | apply Drawn0.step)⟩
          ·rw [if_neg c27] at H
           have c27b0 : ((bt a0 x9_1) == 95) = false := beq_eq_false_iff_ne.mpr c27
           have c27b1 : ((bt a0 x9_1) != 95) = true := bne_iff_ne.mpr c27
           by_cases c28 : x9_1 = 0
           ·rw [if_pos c28] at H
            have c28b0 : (x9_1 == 0) = true := beq_iff_eq.mpr c28
            have c28b1 : (x9_1 != 0) = false := bne_eq_false_iff_eq.mpr c28
            clear c28
            obtain rfl := Option.some.inj H
            have p5 : 0 ≤ (x9_1 : Int) := of_decide_eq_true (by first | (with_reducible assumption) | assumption)
            have q5 : x9_1 < (a0.size : Int) := of_decide_eq_true (by first | (with_reducible assumption) | assumption)
            have hx5 := bt_at a0 x9_1
            replace p5 := eq_true p5
            replace q5 := eq_true q5
            have p24 : 0 ≤ (x9_1 : Int) := of_decide_eq_true (by first | (with_reducible assumption) | assumption)
            have q24 : x9_1 < (a0.size : Int) := of_decide_eq_true (by first | (with_reducible assumption) | assumption)
            have hx24 := bt_at a0 x9_1
            replace p24 := eq_true p24
            replace q24 := eq_true q24
            have p26 : 0 ≤ (x9_1 : Int) := of_decide_eq_true (by first | (with_reducible assumption) | assumption)
            have q26 : x9_1 < (a0.size : Int) := of_decide_eq_true (by first | (with_reducible assumption) | assumption)
            have hx26 := bt_at a0 x9_1
            replace p26 := eq_true p26
            replace q26 := eq_true q26
            go_wp2
            go_ret
            exact ⟨by first | rfl | (simp; done) | (simp [*]; done), by repeat (first | exact Drawn0.refl _ | apply Drawn0.step)⟩
           ·rw [if_neg c28] at H
            have c28b0 : (x9_1 == 0) = false := beq_eq_false_iff_ne.mpr c28
            have c28b1 : (x9_1 != 0) = true := bne_iff_ne.mpr c28
            by_cases c29 : ((bt a0 x9_1) ≤ 57)
            ·rw [if_pos c29] at H
             have c29b0 : decide ((bt a0 x9_1) ≤ 57) = true := decide_eq_true c29
             clear c29
             have H' := Aside0.mk H
             clear H
             have p5 : 0 ≤ (x9_1 : Int) := of_decide_eq_true (by first | (with_reducible assumption) | assumption)
             have q5 : x9_1 < (a0.size : Int) := of_decide_eq_true (by first | (with_reducible assumption) | assumption)
             have hx5 := bt_at a0 x9_1
             replace p5 := eq_true p5
             replace q5 := eq_true q5
             have p24 : 0 ≤ (x9_1 : Int) := of_decide_eq_true (by first | (with_reducible assumption) | assumption)
             have q24 : x9_1 < (a0.size : Int) := of_decide_eq_true (by first | (with_reducible assumption) | assumption)
             have hx24 := bt_at a0 x9_1
             replace p24 := eq_true p24
             replace q24 := eq_true q24
             have p26 : 0 ≤ (x9_1 : Int) := of_decide_eq_true (by first | (with_reducible assumption) | assumption)
             have q26 : x9_1 < (a0.size : Int) := of_decide_eq_true (by first | (with_reducible assumption) | assumption)
             have hx26 := bt_at a0 x9_1
             replace p26 := eq_true p26
             replace q26 := eq_true q26
             go_wp2
             go_roundg k1
             case measure => have := HK1.out; omega
             case rel => exact ⟨(wrap64 (x9_1 + 1)), (by first | rfl | (simp; done) | (simp [*]; done)), H', ⟨by have := HK1.out; omega⟩, by repeat (first | exact Drawn0.refl _ | apply Drawn0.step)⟩
            ·rw [if_neg c29] at H
             have c29b0 : decide ((bt a0 x9_1) ≤ 57) = false := decide_eq_false c29
             clear c29
             obtain rfl := Option.some.inj H
             have p5 : 0 ≤ (x9_1 : Int) := of_decide_eq_true (by first | (with_reducible assumption) | assumption)
             have q5 : x9_1 < (a0.size : Int) := of_decide_eq_true (by first | (with_reducible assumption) | assumption)
             have hx5 := bt_at a0 x9_1
             replace p5 := eq_true p5
             replace q5 := eq_true q5
             have p24 : 0 ≤ (x9_1 : Int) := of_decide_eq_true (by first | (with_reducible assumption) | assumption)
             have q24 : x9_1 < (a0.size : Int) := of_decide_eq_true (by first | (with_reducible assumption) | assumption)
             have hx24 := bt_at a0 x9_1
             replace p24 := eq_true p24
             replace q24 := eq_true q24
             have p26 : 0 ≤ (x9_1 : Int) := of_decide_eq_true (by first | (with_reducible assumption) | assumption)
             have q26 : x9_1 < (a0.size : Int) := of_decide_eq_true (by first | (with_reducible assumption) | assumption)
             have hx26 := bt_at a0 x9_1
             replace p26 := eq_true p26
             replace q26 := eq_true q26
             go_wp2
             go_ret
             exact ⟨by first | rfl | (simp; done) | (simp [*]; done), by repeat (first | exact Drawn0.refl _ | apply Drawn0.step)⟩
         ·rw [if_neg c25] at H
          have c25b0 : decide (48 ≤ (bt a0 x9_1)) = false := decide_eq_false c25
          clear c25
          by_cases c30 : ((bt a0 x9_1) = 95)
          ·rw [if_pos c30] at H
           have c30b0 : ((bt a0 x9_1) == 95) = true := beq_iff_eq.mpr c30
           have c30b1 : ((bt a0 x9_1) != 95) = false := bne_eq_false_iff_eq.mpr c30
           clear c30
           have H' := Aside0.mk H
           clear H
           have p5 : 0 ≤ (x9_1 : Int) := of_decide_eq_true (by first | (with_reducible assumption) | assumption)
           have q5 : x9_1 < (a0.size : Int) := of_decide_eq_true (by first | (with_reducible assumption) | assumption)
           have hx5 := bt_at a0 x9_1
           replace p5 := eq_true p5
           replace q5 := eq_true q5
           have p24 : 0 ≤ (x9_1 : Int) := of_decide_eq_true (by first | (with_reducible assumption) | assumption)
           have q24 : x9_1 < (a0.size : Int) := of_decide_eq_true (by first | (with_reducible assumption) | assumption)
           have hx24 := bt_at a0 x9_1
           replace p24 := eq_true p24
           replace q24 := eq_true q24
           go_wp2
           go_roundg k1
           case measure => have := HK1.out; omega
           case rel => exact ⟨(wrap64 (x9_1 + 1)), (by first | rfl | (simp; done) | (simp [*]; done)), H', ⟨by have := HK1.out; omega⟩, by repeat (first | exact Drawn0.refl _ | apply Drawn0.step)⟩
          ·rw [if_neg c30] at H
           have c30b0 : ((bt a0 x9_1) == 95) = false := beq_eq_false_iff_ne.mpr c30
           have c30b1 : ((bt a0 x9_1) != 95) = true := bne_iff_ne.mpr c30
           by_cases c31 : x9_1 = 0
           ·rw [if_pos c31] at H
            have c31b0 : (x9_1 == 0) = true := beq_iff_eq.mpr c31
            have c31b1 : (x9_1 != 0) = false := bne_eq_false_iff_eq.mpr c31
            clear c31
            obtain rfl := Option.some.inj H
            have p5 : 0 ≤ (x9_1 : Int) := of_decide_eq_true (by first | (with_reducible assumption) | assumption)
            have q5 : x9_1 < (a0.size : Int) := of_decide_eq_true (by first | (with_reducible assumption) | assumption)
            have hx5 := bt_at a0 x9_1
            replace p5 := eq_true p5
            replace q5 := eq_true q5
            have p24 : 0 ≤ (x9_1 : Int) := of_decide_eq_true (by first | (with_reducible assumption) | assumption)
            have q24 : x9_1 < (a0.size : Int) := of_decide_eq_true (by first | (with_reducible assumption) | assumption)
            have hx24 := bt_at a0 x9_1
            replace p24 := eq_true p24
            replace q24 := eq_true q24
            go_wp2
            go_ret
            exact ⟨by first | rfl | (simp; done) | (simp [*]; done), by repeat (first | exact Drawn0.refl _ | apply Drawn0.step)⟩
           ·rw [if_neg c31] at H
            have c31b0 : (x9_1 == 0) = false := beq_eq_false_iff_ne.mpr c31
            have c31b1 : (x9_1 != 0) = true := bne_iff_ne.mpr c31
            obtain rfl := Option.some.inj H
            have p5 : 0 ≤ (x9_1 : Int) := of_decide_eq_true (by first | (with_reducible assumption) | assumption)
            have q5 : x9_1 < (a0.size : Int) := of_decide_eq_true (by first | (with_reducible assumption) | assumption)
            have hx5 := bt_at a0 x9_1
            replace p5 := eq_true p5
            replace q5 := eq_true q5
            have p24 : 0 ≤ (x9_1 : Int) := of_decide_eq_true (by first | (with_reducible assumption) | assumption)
            have q24 : x9_1 < (a0.size : Int) := of_decide_eq_true (by first | (with_reducible assumption) | assumption)
            have hx24 := bt_at a0 x9_1
            replace p24 := eq_true p24
            replace q24 := eq_true q24
            go_wp2
            go_ret
            exact ⟨by first | rfl | (simp; done) | (simp [*]; done), by repeat (first | exact Drawn0.refl _ | apply Drawn0.step)⟩
      ·rw [if_neg c6] at H
       have c6b0 : decide (97 ≤ (bt a0 x9_1)) = false := decide_eq_false c6
       clear c6
       by_cases c32 : (bt a0 x9_1) ≥ 65
       ·rw [if_pos c32] at H
        have c32b0 : decide (65 ≤ (bt a0 x9_1)) = true := decide_eq_true c32
        clear c32
        by_cases c33 : (bt a0 x9_1) ≤ 90
        ·rw [if_pos c33] at H
         have c33b0 : decide ((bt a0 x9_1) ≤ 90) = true := decide_eq_true c33
         clear c33
         by_cases c35 : (bt a0 x9_1) ≥ 48
         ·rw [if_pos c35] at H
          have c35b0 : decide (48 ≤ (bt a0 x9_1)) = true := decide_eq_true c35
          clear c35
          have H' := Aside0.mk H
          clear H
          have p5 : 0 ≤ (x9_1 : Int) := of_decide_eq_true (by first | (with_reducible assumption) | assumption)
          have q5 : x9_1 < (a0.size : Int) := of_decide_eq_true (by first | (with_reducible assumption) | assumption)
          have hx5 := bt_at a0 x9_1
          replace p5 := eq_true p5
          replace q5 := eq_true q5
          have p34 : 0 ≤ (x9_1 : Int) := of_decide_eq_true (by first | (with_reducible assumption) | assumption)
          have q34 : x9_1 < (a0.size : Int) := of_decide_eq_true (by first | (with_reducible assumption) | assumption)
          have hx34 := bt_at a0 x9_1
          replace p34 := eq_true p34
          replace q34 := eq_true q34
          have p36 : 0 ≤ (x9_1 : Int) := of_decide_eq_true (by first | (with_reducible assumption) | assumption)
          have q36 : x9_1 < (a0.size : Int) := of_decide_eq_true (by first | (with_reducible assumption) | assumption)
          have hx36 := bt_at a0 x9_1
          replace p36 := eq_true p36
          replace q36 := eq_true q36
          go_wp2
          go_roundg k1
          case measure => have := HK1.out; omega
          case rel => exact ⟨(wrap64 (x9_1 + 1)), (by first | rfl | (simp; done) | (simp [*]; done)), H', ⟨by have := HK1.out; omega⟩, by repeat (first | exact Drawn0.refl _ | apply Drawn0.step)⟩
         ·rw [if_neg c35] at H
          have c35b0 : decide (48 ≤ (bt a0 x9_1)) = false := decide_eq_false c35
          clear c35
          have H' := Aside0.mk H
          clear H
          have p5 : 0 ≤ (x9_1 : Int) := of_decide_eq_true (by first | (with_reducible assumption) | assumption)
          have q5 : x9_1 < (a0.size : Int) := of_decide_eq_true (by first | (with_reducible assumption) | assumption)
          have hx5 := bt_at a0 x9_1
          replace p5 := eq_true p5
          replace q5 := eq_true q5
          have p34 : 0 ≤ (x9_1 : Int) := of_decide_eq_true (by first | (with_reducible assumption) | assumption)
          have q34 : x9_1 < (a0.size : Int) := of_decide_eq_true (by first | (with_reducible assumption) | assumption)
          have hx34 := bt_at a0 x9_1
          replace p34 := eq_true p34
          replace q34 := eq_true q34
          go_wp2
          go_roundg k1
          case measure => have := HK1.out; omega
          case rel => exact ⟨(wrap64 (x9_1 + 1)), (by first | rfl | (simp; done) | (simp [*]; done)), H', ⟨by have := HK1.out; omega⟩, by repeat (first | exact Drawn0.refl _ | apply Drawn0.step)⟩
        ·rw [if_neg c33] at H
         have c33b0 : decide ((bt a0 x9_1) ≤ 90) = false := decide_eq_false c33
         clear c33
         by_cases c38 : (bt a0 x9_1) ≥ 48
         ·rw [if_pos c38] at H
          have c38b0 : decide (48 ≤ (bt a0 x9_1)) = true := decide_eq_true c38
          clear c38
          by_cases c40 : ((bt a0 x9_1) = 95)
          ·rw [if_pos c40] at H
           have c40b0 : ((bt a0 x9_1) == 95) = true := beq_iff_eq.mpr c40
           have c40b1 : ((bt a0 x9_1) != 95) = false := bne_eq_false_iff_eq.mpr c40
           clear c40
           have H' := Aside0.mk H
           clear H
           have p5 : 0 ≤ (x9_1 : Int) := of_decide_eq_true (by first | (with_reducible assumption) | assumption)
           have q5 : x9_1 < (a0.size : Int) := of_decide_eq_true (by first | (with_reducible assumption) | assumption)
           have hx5 := bt_at a0 x9_1
           replace p5 := eq_true p5
           replace q5 := eq_true q5
           have p37 : 0 ≤ (x9_1 : Int) := of_decide_eq_true (by first | (with_reducible assumption) | assumption)
           have q37 : x9_1 < (a0.size : Int) := of_decide_eq_true (by first | (with_reducible assumption) | assumption)
           have hx37 := bt_at a0 x9_1
           replace p37 := eq_true p37
           replace q37 := eq_true q37
           have p39 : 0 ≤ (x9_1 : Int) := of_decide_eq_true (by first | (with_reducible assumption) | assumption)
           have q39 : x9_1 < (a0.size : Int) := of_decide_eq_true (by first | (with_reducible assumption) | assumption)
           have hx39 := bt_at a0 x9_1
           replace p39 := eq_true p39
           replace q39 := eq_true q39
           go_wp2
           go_roundg k1
           case measure => have := HK1.out; omega
           case rel => exact ⟨(wrap64 (x9_1 + 1)), (by first | rfl | (simp; done) | (simp [*]; done)), H', ⟨by have := HK1.out; omega⟩, by repeat (first | exact Drawn0.refl _ | apply Drawn0.step)⟩
          ·rw [if_neg c40] at H
           have c40b0 : ((bt a0 x9_1) == 95) = false := beq_eq_false_iff_ne.mpr c40
           have c40b1 : ((bt a0 x9_1) != 95) = true := bne_iff_ne.mpr c40
           by_cases c41 : x9_1 = 0
           ·rw [if_pos c41] at H
            have c41b0 : (x9_1 == 0) = true := beq_iff_eq.mpr c41
            have c41b1 : (x9_1 != 0) = false := bne_eq_false_iff_eq.mpr c41
            clear c41
            obtain rfl := Option.some.inj H
            have p5 : 0 ≤ (x9_1 : Int) := of_decide_eq_true (by first | (with_reducible assumption) | assumption)
            have q5 : x9_1 < (a0.size : Int) := of_decide_eq_true (by first | (with_reducible assumption) | assumption)
            have hx5 := bt_at a0 x9_1
            replace p5 := eq_true p5
            replace q5 := eq_true q5
            have p37 : 0 ≤ (x9_1 : Int) := of_decide_eq_true (by first | (with_reducible assumption) | assumption)
            have q37 : x9_1 < (a0.size : Int) := of_decide_eq_true (by first | (with_reducible assumption) | assumption)
            have hx37 := bt_at a0 x9_1
            replace p37 := eq_true p37
            replace q37 := eq_true q37
            have p39 : 0 ≤ (x9_1 : Int) := of_decide_eq_true (by first | (with_reducible assumption) | assumption)
            have q39 : x9_1 < (a0.size : Int) := of_decide_eq_true (by first | (with_reducible assumption) | assumption)
            have hx39 := bt_at a0 x9_1
            replace p39 := eq_true p39
            replace q39 := eq_true q39
            go_wp2
            go_ret
            exact ⟨by first | rfl | (simp; done) | (simp [*]; done), by repeat (first | exact Drawn0.refl _ | apply Drawn0.step)⟩
           ·rw [if_neg c41] at H
            have c41b0 : (x9_1 == 0) = false := beq_eq_false_iff_ne.mpr c41
            have c41b1 : (x9_1 != 0) = true := bne_iff_ne.mpr c41
            by_cases c42 : ((bt a0 x9_1) ≤ 57)
            ·rw [if_pos c42] at H
             have c42b0 : decide ((bt a0 x9_1) ≤ 57) = true := decide_eq_true c42
             clear c42
             have H' := Aside0.mk H
             clear H
             have p5 : 0 ≤ (x9_1 : Int) := of_decide_eq_true (by first | (with_reducible assumption) | assumption)
             have q5 : x9_1 < (a0.size : Int) := of_decide_eq_true (by first | (with_reducible assumption) | assumption)
             have hx5 := bt_at a0 x9_1
             replace p5 := eq_true p5
             replace q5 := eq_true q5
             have p37 : 0 ≤ (x9_1 : Int) := of_decide_eq_true (by first | (with_reducible assumption) | assumption)
             have q37 : x9_1 < (a0.size : Int) := of_decide_eq_true (by first | (with_reducible assumption) | assumption)
             have hx37 := bt_at a0 x9_1
             replace p37 := eq_true p37
             replace q37 := eq_true q37
             have p39 : 0 ≤ (x9_1 : Int) := of_decide_eq_true (by first | (with_reducible assumption) | assumption)
             have q39 : x9_1 < (a0.size : Int) := of_decide_eq_true (by first | (with_reducible assumption) | assumption)
             have hx39 := bt_at a0 x9_1
             replace p39 := eq_true p39
             replace q39 := eq_true q39
             go_wp2
             go_roundg k1
             case measure => have := HK1.out; omega
             case rel => exact ⟨(wrap64 (x9_1 + 1)), (by first | rfl | (simp; done) | (simp [*]; done)), H', ⟨by have := HK1.out; omega⟩, by repeat (first | exact Drawn0.refl _ | apply Drawn0.step)⟩
            ·rw [if_neg c42] at H
             have c42b0 : decide ((bt a0 x9_1) ≤ 57) = false := decide_eq_false c42
             clear c42
             obtain rfl := Option.some.inj H
             have p5 : 0 ≤ (x9_1 : Int) := of_decide_eq_true (by first | (with_reducible assumption) | assumption)
             have q5 : x9_1 < (a0.size : Int) := of_decide_eq_true (by first | (with_reducible assumption) | assumption)
             have hx5 := bt_at a0 x9_1
             replace p5 := eq_true p5
             replace q5 := eq_true q5
             have p37 : 0 ≤ (x9_1 : Int) := of_decide_eq_true (by first | (with_reducible assumption) | assumption)
             have q37 : x9_1 < (a0.size : Int) := of_decide_eq_true (by first | (with_reducible assumption) | assumption)
             have hx37 := bt_at a0 x9_1
             replace p37 := eq_true p37
             replace q37 := eq_true q37
             have p39 : 0 ≤ (x9_1 : Int) := of_decide_eq_true (by first | (with_reducible assumption) | assumption)
             have q39 : x9_1 < (a0.size : Int) := of_decide_eq_true (by first | (with_reducible assumption) | assumption)
             have hx39 := bt_at a0 x9_1
             replace p39 := eq_true p39
             replace q39 := eq_true q39
             go_wp2
             go_ret
             exact ⟨by first | rfl | (simp; done) | (simp [*]; done), by repeat (first | exact Drawn0.refl _ | apply Drawn0.step)⟩
         ·rw [if_neg c38] at H
          have c38b0 : decide (48 ≤ (bt a0 x9_1)) = false := decide_eq_false c38
          clear c38
          by_cases c43 : ((bt a0 x9_1) = 95)
          ·rw [if_pos c43] at H
           have c43b0 : ((bt a0 x9_1) == 95) = true := beq_iff_eq.mpr c43
           have c43b1 : ((bt a0 x9_1) != 95) = false := bne_eq_false_iff_eq.mpr c43
           clear c43
           have H' := Aside0.mk H
           clear H
           have p5 : 0 ≤ (x9_1 : Int) := of_decide_eq_true (by first | (with_reducible assumption) | assumption)
           have q5 : x9_1 < (a0.size : Int) := of_decide_eq_true (by first | (with_reducible assumption) | assumption)
           have hx5 := bt_at a0 x9_1
           replace p5 := eq_true p5
           replace q5 := eq_true q5
           have p37 : 0 ≤ (x9_1 : Int) := of_decide_eq_true (by first | (with_reducible assumption) | assumption)
           have q37 : x9_1 < (a0.size : Int) := of_decide_eq_true (by first | (with_reducible assumption) | assumption)
           have hx37 := bt_at a0 x9_1
           replace p37 := eq_true p37
           replace q37 := eq_true q37
           go_wp2
           go_roundg k1
           case measure => have := HK1.out; omega
           case rel => exact ⟨(wrap64 (x9_1 + 1)), (by first | rfl | (simp; done) | (simp [*]; done)), H', ⟨by have := HK1.out; omega⟩, by repeat (first | exact Drawn0.refl _ | apply Drawn0.step)⟩
          ·rw [if_neg c43] at H
           have c43b0 : ((bt a0 x9_1) == 95) = false := beq_eq_false_iff_ne.mpr c43
           have c43b1 : ((bt a0 x9_1) != 95) = true := bne_iff_ne.mpr c43
           by_cases c44 : x9_1 = 0
           ·rw [if_pos c44] at H
            have c44b0 : (x9_1 == 0) = true := beq_iff_eq.mpr c44
            have c44b1 : (x9_1 != 0) = false := bne_eq_false_iff_eq.mpr c44
            clear c44
            obtain rfl := Option.some.inj H
            have p5 : 0 ≤ (x9_1 : Int) := of_decide_eq_true (by first | (with_reducible assumption) | assumption)
            have q5 : x9_1 < (a0.size : Int) := of_decide_eq_true (by first | (with_reducible assumption) | assumption)
            have hx5 := bt_at a0 x9_1
            replace p5 := eq_true p5
            replace q5 := eq_true q5
            have p37 : 0 ≤ (x9_1 : Int) := of_decide_eq_true (by first | (with_reducible assumption) | assumption)
            have q37 : x9_1 < (a0.size : Int) := of_decide_eq_true (by first | (with_reducible assumption) | assumption)
            have hx37 := bt_at a0 x9_1
            replace p37 := eq_true p37
            replace q37 := eq_true q37
            go_wp2
            go_ret
            exact ⟨by first | rfl | (simp; done) | (simp [*]; done), by repeat (first | exact Drawn0.refl _ | apply Drawn0.step)⟩
           ·rw [if_neg c44] at H
            have c44b0 : (x9_1 == 0) = false := beq_eq_false_iff_ne.mpr c44
            have c44b1 : (x9_1 != 0) = true := bne_iff_ne.mpr c44
            obtain rfl := Option.some.inj H
            have p5 : 0 ≤ (x9_1 : Int) := of_decide_eq_true (by first | (with_reducible assumption) | assumption)
            have q5 : x9_1 < (a0.size : Int) := of_decide_eq_true (by first | (with_reducible assumption) | assumption)
            have hx5 := bt_at a0 x9_1
            replace p5 := eq_true p5
            replace q5 := eq_true q5
            have p37 : 0 ≤ (x9_1 : Int) := of_decide_eq_true (by first | (with_reducible assumption) | assumption)
            have q37 : x9_1 < (a0.size : Int) := of_decide_eq_true (by first | (with_reducible assumption) | assumption)
            have hx37 := bt_at a0 x9_1
            replace p37 := eq_true p37
            replace q37 := eq_true q37
            go_wp2
            go_ret
            exact ⟨by first | rfl | (simp; done) | (simp [*]; done), by repeat (first | exact Drawn0.refl _ | apply Drawn0.step)⟩
       ·rw [if_neg c32] at H
        have c32b0 : decide (65 ≤ (bt a0 x9_1)) = false := decide_eq_false c32
        clear c32
        by_cases c46 : (bt a0 x9_1) ≥ 48
        ·rw [if_pos c46] at H
         have c46b0 : decide (48 ≤ (bt a0 x9_1)) = true := decide_eq_true c46
         clear c46
         by_cases c48 : ((bt a0 x9_1) = 95)
         ·rw [if_pos c48] at H
          have c48b0 : ((bt a0 x9_1) == 95) = true := beq_iff_eq.mpr c48
          have c48b1 : ((bt a0 x9_1) != 95) = false := bne_eq_false_iff_eq.mpr c48
          clear c48
          have H' := Aside0.mk H
          clear H
          have p5 : 0 ≤ (x9_1 : Int) := of_decide_eq_true (by first | (with_reducible assumption) | assumption)
          have q5 : x9_1 < (a0.size : Int) := of_decide_eq_true (by first | (with_reducible assumption) | assumption)
          have hx5 := bt_at a0 x9_1
          replace p5 := eq_true p5
          replace q5 := eq_true q5
          have p45 : 0 ≤ (x9_1 : Int) := of_decide_eq_true (by first | (with_reducible assumption) | assumption)
          have q45 : x9_1 < (a0.size : Int) := of_decide_eq_true (by first | (with_reducible assumption) | assumption)
          have hx45 := bt_at a0 x9_1
          replace p45 := eq_true p45
          replace q45 := eq_true q45
          have p47 : 0 ≤ (x9_1 : Int) := of_decide_eq_true (by first | (with_reducible assumption) | assumption)
          have q47 : x9_1 < (a0.size : Int) := of_decide_eq_true (by first | (with_reducible assumption) | assumption)
          have hx47 := bt_at a0 x9_1
          replace p47 := eq_true p47
          replace q47 := eq_true q47
          go_wp2
          go_roundg k1
          case measure => have := HK1.out; omega
          case rel => exact ⟨(wrap64 (x9_1 + 1)), (by first | rfl | (simp; done) | (simp [*]; done)), H', ⟨by have := HK1.out; omega⟩, by repeat (first | exact Drawn0.refl _ | apply Drawn0.step)⟩
         ·rw [if_neg c48] at H
          have c48b0 : ((bt a0 x9_1) == 95) = false := beq_eq_false_iff_ne.mpr c48
          have c48b1 : ((bt a0 x9_1) != 95) = true := bne_iff_ne.mpr c48
          by_cases c49 : x9_1 = 0
          ·rw [if_pos c49] at H
           have c49b0 : (x9_1 == 0) = true := beq_iff_eq.mpr c49
           have c49b1 : (x9_1 != 0) = false := bne_eq_false_iff_eq.mpr c49
           clear c49
           obtain rfl := Option.some.inj H
           have p5 : 0 ≤ (x9_1 : Int) := of_decide_eq_true (by first | (with_reducible assumption) | assumption)
           have q5 : x9_1 < (a0.size : Int) := of_decide_eq_true (by first | (with_reducible assumption) | assumption)
           have hx5 := bt_at a0 x9_1
           replace p5 := eq_true p5
           replace q5 := eq_true q5
           have p45 : 0 ≤ (x9_1 : Int) := of_decide_eq_true (by first | (with_reducible assumption) | assumption)
           have q45 : x9_1 < (a0.size : Int) := of_decide_eq_true (by first | (with_reducible assumption) | assumption)
           have hx45 := bt_at a0 x9_1
           replace p45 := eq_true p45
           replace q45 := eq_true q45
           have p47 : 0 ≤ (x9_1 : Int) := of_decide_eq_true (by first | (with_reducible assumption) | assumption)
           have q47 : x9_1 < (a0.size : Int) := of_decide_eq_true (by first | (with_reducible assumption) | assumption)
           have hx47 := bt_at a0 x9_1
           replace p47 := eq_true p47
           replace q47 := eq_true q47
           go_wp2
           go_ret
           exact ⟨by first | rfl | (simp; done) | (simp [*]; done), by repeat (first | exact Drawn0.refl _ | apply Drawn0.step)⟩
          ·rw [if_neg c49] at H
           have c49b0 : (x9_1 == 0) = false := beq_eq_false_iff_ne.mpr c49
           have c49b1 : (x9_1 != 0) = true := bne_iff_ne.mpr c49
           by_cases c50 : ((bt a0 x9_1) ≤ 57)
           ·rw [if_pos c50] at H
            have c50b0 : decide ((bt a0 x9_1) ≤ 57) = true := decide_eq_true c50
            clear c50
            have H' := Aside0.mk H
            clear H
            have p5 : 0 ≤ (x9_1 : Int) := of_decide_eq_true (by first | (with_reducible assumption) | assumption)
            have q5 : x9_1 < (a0.size : Int) := of_decide_eq_true (by first | (with_reducible assumption) | assumption)
            have hx5 := bt_at a0 x9_1
            replace p5 := eq_true p5
            replace q5 := eq_true q5
            have p45 : 0 ≤ (x9_1 : Int) := of_decide_eq_true (by first | (with_reducible assumption) | assumption)
            have q45 : x9_1 < (a0.size : Int) := of_decide_eq_true (by first | (with_reducible assumption) | assumption)
            have hx45 := bt_at a0 x9_1
            replace p45 := eq_true p45
            replace q45 := eq_true q45
            have p47 : 0 ≤ (x9_1 : Int) := of_decide_eq_true (by first | (with_reducible assumption) | assumption)
            have q47 : x9_1 < (a0.size : Int) := of_decide_eq_true (by first | (with_reducible assumption) | assumption)
            have hx47 := bt_at a0 x9_1
            replace p47 := eq_true p47
            replace q47 := eq_true q47
            go_wp2
            go_roundg k1
            case measure => have := HK1.out; omega
            case rel => exact ⟨(wrap64 (x9_1 + 1)), (by first | rfl | (simp; done) | (simp [*]; done)), H', ⟨by have := HK1.out; omega⟩, by repeat (first | exact Drawn0.refl _ | apply Drawn0.step)⟩
           ·rw [if_neg c50] at H
            have c50b0 : decide ((bt a0 x9_1) ≤ 57) = false := decide_eq_false c50
            clear c50
            obtain rfl := Option.some.inj H
            have p5 : 0 ≤ (x9_1 : Int) := of_decide_eq_true (by first | (with_reducible assumption) | assumption)
            have q5 : x9_1 < (a0.size : Int) := of_decide_eq_true (by first | (with_reducible assumption) | assumption)
            have hx5 := bt_at a0 x9_1
            replace p5 := eq_true p5
            replace q5 := eq_true q5
            have p45 : 0 ≤ (x9_1 : Int) := of_decide_eq_true (by first | (with_reducible assumption) | assumption)
            have q45 : x9_1 < (a0.size : Int) := of_decide_eq_true (by first | (with_reducible assumption) | assumption)
            have hx45 := bt_at a0 x9_1
            replace p45 := eq_true p45
            replace q45 := eq_true q45
            have p47 : 0 ≤ (x9_1 : Int) := of_decide_eq_true (by first | (with_reducible assumption) | assumption)
            have q47 : x9_1 < (a0.size : Int) := of_decide_eq_true (by first | (with_reducible assumption) | assumption)
            have hx47 := bt_at a0 x9_1
            replace p47 := eq_true p47
            replace q47 := eq_true q47
            go_wp2
            go_ret
            exact ⟨by first | rfl | (simp; done) | (simp [*]; done), by repeat (first | exact Drawn0.refl _ | apply Drawn0.step)⟩
        ·rw [if_neg c46] at H
         have c46b0 : decide (48 ≤ (bt a0 x9_1)) = false := decide_eq_false c46
         clear c46
         by_cases c51 : ((bt a0 x9_1) = 95)
         ·rw [if_pos c51] at H
          have c51b0 : ((bt a0 x9_1) == 95) = true := beq_iff_eq.mpr c51
          have c51b1 : ((bt a0 x9_1) != 95) = false := bne_eq_false_iff_eq.mpr c51
          clear c51
          have H' := Aside0.mk H
          clear H
          have p5 : 0 ≤ (x9_1 : Int) := of_decide_eq_true (by first | (with_reducible assumption) | assumption)
          have q5 : x9_1 < (a0.size : Int) := of_decide_eq_true (by first | (with_reducible assumption) | assumption)
          have hx5 := bt_at a0 x9_1
          replace p5 := eq_true p5
          replace q5 := eq_true q5
          have p45 : 0 ≤ (x9_1 : Int) := of_decide_eq_true (by first | (with_reducible assumption) | assumption)
          have q45 : x9_1 < (a0.size : Int) := of_decide_eq_true (by first | (with_reducible assumption) | assumption)
          have hx45 := bt_at a0 x9_1
          replace p45 := eq_true p45
          replace q45 := eq_true q45
          go_wp2
          go_roundg k1
          case measure => have := HK1.out; omega
          case rel => exact ⟨(wrap64 (x9_1 + 1)), (by first | rfl | (simp; done) | (simp [*]; done)), H', ⟨by have := HK1.out; omega⟩, by repeat (first | exact Drawn0.refl _ | apply Drawn0.step)⟩
         ·rw [if_neg c51] at H
          have c51b0 : ((bt a0 x9_1) == 95) = false := beq_eq_false_iff_ne.mpr c51
          have c51b1 : ((bt a0 x9_1) != 95) = true := bne_iff_ne.mpr c51
          by_cases c52 : x9_1 = 0
          ·rw [if_pos c52] at H
           have c52b0 : (x9_1 == 0) = true := beq_iff_eq.mpr c52
           have c52b1 : (x9_1 != 0) = false := bne_eq_false_iff_eq.mpr c52
           clear c52
           obtain rfl := Option.some.inj H
           have p5 : 0 ≤ (x9_1 : Int) := of_decide_eq_true (by first | (with_reducible assumption) | assumption)
           have q5 : x9_1 < (a0.size : Int) := of_decide_eq_true (by first | (with_reducible assumption) | assumption)
           have hx5 := bt_at a0 x9_1
           replace p5 := eq_true p5
           replace q5 := eq_true q5
           have p45 : 0 ≤ (x9_1 : Int) := of_decide_eq_true (by first | (with_reducible assumption) | assumption)
           have q45 : x9_1 < (a0.size : Int) := of_decide_eq_true (by first | (with_reducible assumption) | assumption)
           have hx45 := bt_at a0 x9_1
           replace p45 := eq_true p45
           replace q45 := eq_true q45
           go_wp2
           go_ret
           exact ⟨by first | rfl | (simp; done) | (simp [*]; done), by repeat (first | exact Drawn0.refl _ | apply Drawn0.step)⟩
          ·rw [if_neg c52] at H
           have c52b0 : (x9_1 == 0) = false := beq_eq_false_iff_ne.mpr c52
           have c52b1 : (x9_1 != 0) = true := bne_iff_ne.mpr c52
           obtain rfl := Option.some.inj H
           have p5 : 0 ≤ (x9_1 : Int) := of_decide_eq_true (by first | (with_reducible assumption) | assumption)
           have q5 : x9_1 < (a0.size : Int) := of_decide_eq_true (by first | (with_reducible assumption) | assumption)
           have hx5 := bt_at a0 x9_1
           replace p5 := eq_true p5
           replace q5 := eq_true q5
           have p45 : 0 ≤ (x9_1 : Int) := of_decide_eq_true (by first | (with_reducible assumption) | assumption)
           have q45 : x9_1 < (a0.size : Int) := of_decide_eq_true (by first | (with_reducible assumption) | assumption)
           have hx45 := bt_at a0 x9_1
           replace p45 := eq_true p45
           replace q45 := eq_true q45
           go_wp2
           go_ret
           exact ⟨by first | rfl | (simp; done) | (simp [*]; done), by repeat (first | exact Drawn0.refl _ | apply Drawn0.step)⟩
     ·rw [if_neg c4] at H
      exact absurd H (by simp)
    ·rw [if_neg c3] at H
     exact absurd H (by simp)
   ·rw [if_neg c2] at H
    have c2b0 : decide (x9_1 < (a0.size : Int)) = false := decide_eq_false c2
    clear c2
    replace H := Option.bind_eq_some_iff.mp H
    obtain ⟨t247, A530, H⟩ := H
    replace H : (some t247) = some r := H
    have A53 := Aside0.mk A530
    clear A530
    obtain rfl := Option.some.inj H
    go_wp2_with (first | ((with_reducible refine gate_callee (f := 80) rfl ?_); refine goesL_ (some 56) rfl rfl Try.func80 (by kernel_rfl) rfl #[.int .i64 (a0.size : Int), .int .i64 1, .int .i64 40] rfl (by (try simp only [List.map_toArray, List.map_cons, List.map_nil]); first | done | rfl | (simp only [List.length_drop, List.length_take]; rfl)) ?_; (with_reducible refine (impl_within.calls (a0.size : Int) 1 40 t247 _ A53.out).mono ?_); rintro e w' ⟨rfl, ⟨nd, rfl⟩⟩; refine ⟨_, rfl, ?_⟩))
    go_ret
    exact ⟨by first | rfl | (simp; done) | (simp [*]; done), by repeat (first | exact Drawn0.refl _ | apply Drawn0.step)⟩
end Go.Proofs.Ytgibacfgjmdjdaa.PFnExactNeighbours
end
section
namespace Go.Proofs.Ytgibacfgjmdjdaa.PFnExactNeighbours
open Go.RowKit Go.Proofs.YtgibacfgjmdjdaaW.PrintWords Go.Proofs.YtgibacfgjmdjdaaW.PrintLast Go.Proofs.YtgibacfgjmdjdaaW.PrintMore
attribute [local go_sem] max2_int min2_int max_two min_two max_three min_three max_four min_four   -- for this text's walks alone
set_option linter.unusedVariables false
set_option linter.unusedSimpArgs false
def routerB (n : Nat) (r : Int) : Bool := decide (0 ≤ r) && decide (r ≤ (n : Int) - 1)
def inB (a lo hi : Int) : Bool := decide (lo ≤ a) && decide (a ≤ hi)
theorem within_is (a lo hi : Int) : impl_within.f a lo hi = some (inB a lo hi) := by
 unfold impl_within.f inB
 by_cases h : a ≥ lo
 ·rw [if_pos h, decide_eq_true (show lo ≤ a from h), Bool.true_and]
 ·rw [if_neg h, decide_eq_false (show ¬ lo ≤ a from h), Bool.false_and]
theorem router_is (l0_0 : List ByteArray) (l0_1 : List S92) (l0_2 : List Int) (l0_3 : List Int) (l0_4 : List S95) (l0_5 : List S97) (a : Int) (hl : l0_0.length ≤ 9223372036854775807) : impl_isRouter.f l0_0 l0_1 l0_2 l0_3 l0_4 l0_5 a = some (routerB l0_0.length a) := by
 unfold impl_isRouter.f routerB
 rw [within_is, Option.bind_some]
 unfold inB
 rw [show wrap64 ((l0_0.length : Int) - 1) = (l0_0.length : Int) - 1 by unfold wrap64; omega]
def importB (x : S95) : Bool := inB x.f2 0 2 && (inB x.f3 1 4 && inB x.f4 0 (if x.f3 = 2 then 1000 else 0))
theorem import_is (x : S95) : impl_isImport.f x.f0 x.f1 x.f2 x.f3 x.f4 = some (importB x) := by
 unfold impl_isImport.f importB
 simp only [within_is, Option.bind_some]
 by_cases h : x.f3 = 2
 ·rw [if_pos h, if_pos h]
  cases inB x.f2 0 2 <;> cases inB x.f3 1 4 <;> simp
 ·rw [if_neg h, if_neg h]
  cases inB x.f2 0 2 <;> cases inB x.f3 1 4 <;> simp
def linkI (links : List S92) (a b : Int) : Int := idxB (joinB a b) links 0
def impBad (links : List S92) (x : S95) : Bool := decide (linkI links x.f0 x.f1 < 0) || !(importB x)
def filtBad (links : List S92) (x : S97) : Bool := decide (linkI links x.f0 x.f1 < 0) || (!(inB x.f2 0 x.f3) || decide (x.f3 > 15))
def namesO (k : Nat) (all : List ByteArray) : List ByteArray → Nat → Option Bool
 | [], _ => some true
 | y :: r, i => (impl_NameOK.f k y).bind fun t => if t = true then ((slices_Contains_string_string.f k (all.take i) y).bind fun u => if u = true then some false else namesO k all r (i + 1)) else some false
def linkB (n : Nat) (all : List S92) (i : Nat) (x : S92) : Bool := routerB n x.f0 && (routerB n x.f1 && (!(x.f0 == x.f1) && (!(decide (linkI all x.f0 x.f1 < (i : Int))) && inB x.f2 1 100)))
def linksB (n : Nat) (all : List S92) : List S92 → Nat → Bool
 | [], _ => true
 | x :: r, i => linkB n all i x && linksB n all r (i + 1)
def impl_isNet.f (k : Nat) (l0_0 : List ByteArray) (l0_1 : List S92) (l0_2 : List Int) (l0_3 : List Int) (l0_4 : List S95) (l0_5 : List S97) : Option Bool :=
 if inB l0_0.length 1 4 = true ∧ l0_1.length ≤ 6 ∧ l0_4.length ≤ 12 ∧ l0_5.length ≤ 6 then
  (namesO k l0_0 l0_0 0).bind fun t => if t = true then
   if linksB l0_0.length l0_1 l0_1 0 = true then
    if l0_4.any (impBad l0_1) = true then some false else
    if l0_5.any (filtBad l0_1) = true then some false else
    (impl_areRouters.f k l0_0 l0_1 l0_2 l0_3 l0_4 l0_5 l0_2).bind fun a => if a = true then ((impl_areRouters.f k l0_0 l0_1 l0_2 l0_3 l0_4 l0_5 l0_3).bind fun b => some (b && decide (l0_3.length ≤ 2))) else some false
   else some false
  else some false
 else some false
set_option maxHeartbeats 1600000 in
set_option maxRecDepth 100000 in
theorem imp_fn (A0_0 : Option Addr) (c0_0 : Nat) (l0_0 : List ByteArray) (A0_1 : Option Addr) (c0_1 : Nat) (l0_1 : List S92) (A0_2 : Option Addr) (c0_2 : Nat) (l0_2 : List Int) (A0_3 : Option Addr) (c0_3 : Nat) (l0_3 : List Int) (A0_4 : Option Addr) (c0_4 : Nat) (l0_4 : List S95) (A0_5 : Option Addr) (c0_5 : Nat) (l0_5 : List S97) (w : World) (HN : Aside0 (Kd.C Kd.string w A0_0 l0_0.length l0_0 ∧ l0_0.length ≤ c0_0 ∧ Kd.C k92 w A0_1 l0_1.length l0_1 ∧ l0_1.length ≤ c0_1 ∧ Kd.C (Kd.int .i64) w A0_2 l0_2.length l0_2 ∧ l0_2.length ≤ c0_2 ∧ Kd.C (Kd.int .i64) w A0_3 l0_3.length l0_3 ∧ l0_3.length ≤ c0_3 ∧ Kd.C k95 w A0_4 l0_4.length l0_4 ∧ l0_4.length ≤ c0_4 ∧ Kd.C k97 w A0_5 l0_5.length l0_5 ∧ l0_5.length ≤ c0_5)) (gn : Nat) (x : S95) (W : World) (hb : Below w.heap.size w W) (hn : W.heap[gn]? = some (.cells #[.slice A0_0 l0_0.length c0_0, .slice A0_1 l0_1.length c0_1, .slice A0_2 l0_2.length c0_2, .slice A0_3 l0_3.length c0_3, .slice A0_4 l0_4.length c0_4, .slice A0_5 l0_5.length c0_5] 38 (0, 0))) :
  Calls Try.prog 91 #[.agg #[.int .i64 x.f0, .int .i64 x.f1, .int .i64 x.f2, .int .i64 x.f3, .int .i64 x.f4], .pointer (some ⟨gn, 0, none⟩)] W fun e W' => e = .returned (.bool (impBad l0_1 x)) ∧ Below W.heap.size W W' := by
 have hu95 := Try.underlying95
 have hu38 := Try.underlying38
 have BN := Aside0.mk hn
 have HB := Aside0.mk (Below.refl W.heap.size W)
 have HW := Aside0.mk hb
 have hlk := fun (V : World) (hV : Below w.heap.size w V) => impl_linkOf.calls A0_0 c0_0 l0_0 A0_1 c0_1 l0_1 A0_2 c0_2 l0_2 A0_3 c0_3 l0_3 A0_4 c0_4 l0_4 A0_5 c0_5 l0_5 x.f0 x.f1 (linkI l0_1 x.f0 x.f1) V (Kd.C_below HN.out.1 hV) HN.out.2.1 (Kd.C_below HN.out.2.2.1 hV) HN.out.2.2.2.1 (Kd.C_below HN.out.2.2.2.2.1 hV) HN.out.2.2.2.2.2.1 (Kd.C_below HN.out.2.2.2.2.2.2.1 hV) HN.out.2.2.2.2.2.2.2.1 (Kd.C_below HN.out.2.2.2.2.2.2.2.2.1 hV) HN.out.2.2.2.2.2.2.2.2.2.1 (Kd.C_below HN.out.2.2.2.2.2.2.2.2.2.2.1 hV) HN.out.2.2.2.2.2.2.2.2.2.2.2 rfl
 have him := fun (V : World) => impl_isImport.calls x.f0 x.f1 x.f2 x.f3 x.f4 _ V (import_is x)
 unfold impBad
 obtain ⟨x0, x1, x2, x3, x4⟩ := x
 dsimp only at hlk him ⊢
 have HLK := Aside0.mk hlk
 have H2 := Aside0.mk him
 clear hlk him hn hb
 generalize linkI l0_1 x0 x1 = lk at HLK ⊢
 generalize importB ⟨x0, x1, x2, x3, x4⟩ = ib at H2 ⊢
 by_cases hl : lk < 0
 ·have hl2 : decide (lk < 0) = true := decide_eq_true hl
  rw [hl2, Bool.true_or]
  go_enter Try.func91, Try.ntmps91
  go_wp2_with (first | ((with_reducible refine gate_dst (N := 2) rfl ?_); refine box_event ?hg (N := 2) ?hd (cs := #[.int .i64 x0, .int .i64 x1, .int .i64 x2, .int .i64 x3, .int .i64 x4]) (t := 95) ?hr ?_; (case hd => rfl); (case hg => rfl); (case hr => first | (go_simp; done) | (go_simp; rfl)); intro gx hgx wx hbox hbb; have HX := Aside0.mk hbox; have hbs := hbb; have m0_ := Aside0.mk (HB.out.trans (hbs.mono HB.out.size)); have m1_ := Aside0.mk (blk_below BN.out hbs); clear HB BN; have HB := m0_; have BN := m1_; clear m0_ m1_; clear hbb hbs hbox hgx; have hn0 := (blk_cell BN.out 0).trans (show _ = some (.slice A0_0 l0_0.length c0_0) from rfl); have hn1 := (blk_cell BN.out 1).trans (show _ = some (.slice A0_1 l0_1.length c0_1) from rfl); have hn2 := (blk_cell BN.out 2).trans (show _ = some (.slice A0_2 l0_2.length c0_2) from rfl); have hn3 := (blk_cell BN.out 3).trans (show _ = some (.slice A0_3 l0_3.length c0_3) from rfl); have hn4 := (blk_cell BN.out 4).trans (show _ = some (.slice A0_4 l0_4.length c0_4) from rfl); have hn5 := (blk_cell BN.out 5).trans (show _ = some (.slice A0_5 l0_5.length c0_5) from rfl); have hx0 := (blk_cell HX.out 0).trans (show _ = some (.int .i64 x0) from rfl); have hx1 := (blk_cell HX.out 1).trans (show _ = some (.int .i64 x1) from rfl); have hx2 := (blk_cell HX.out 2).trans (show _ = some (.int .i64 x2) from rfl); have hx3 := (blk_cell HX.out 3).trans (show _ = some (.int .i64 x3) from rfl); have hx4 := (blk_cell HX.out 4).trans (show _ = some (.int .i64 x4) from rfl)) | (go_at_call 89; (with_reducible refine (HLK.out _ (HW.out.trans (HB.out.mono HW.out.size))).mono ?_); rintro e wl ⟨rfl, hb⟩; clear hn0 hn1 hn2 hn3 hn4 hn5; clear hx0 hx1 hx2 hx3 hx4; have m0_ := Aside0.mk (HB.out.trans (hb.mono HB.out.size)); have m1_ := Aside0.mk (blk_below BN.out hb); have m2_ := Aside0.mk (blk_below HX.out hb); clear HB BN HX; have HB := m0_; have BN := m1_; have HX := m2_; clear m0_ m1_ m2_; clear hb; have hn0 := (blk_cell BN.out 0).trans (show _ = some (.slice A0_0 l0_0.length c0_0) from rfl); have hn1 := (blk_cell BN.out 1).trans (show _ = some (.slice A0_1 l0_1.length c0_1) from rfl); have hn2 := (blk_cell BN.out 2).trans (show _ = some (.slice A0_2 l0_2.length c0_2) from rfl); have hn3 := (blk_cell BN.out 3).trans (show _ = some (.slice A0_3 l0_3.length c0_3) from rfl); have hn4 := (blk_cell BN.out 4).trans (show _ = some (.slice A0_4 l0_4.length c0_4) from rfl); have hn5 := (blk_cell BN.out 5).trans (show _ = some (.slice A0_5 l0_5.length c0_5) from rfl); have hx0 := (blk_cell HX.out 0).trans (show _ = some (.int .i64 x0) from rfl); have hx1 := (blk_cell HX.out 1).trans (show _ = some (.int .i64 x1) from rfl); have hx2 := (blk_cell HX.out 2).trans (show _ = some (.int .i64 x2) from rfl); have hx3 := (blk_cell HX.out 3).trans (show _ = some (.int .i64 x3) from rfl); have hx4 := (blk_cell HX.out 4).trans (show _ = some (.int .i64 x4) from rfl)))
  go_ret
  exact ⟨rfl, HB.out⟩
 ·have hl2 : decide (lk < 0) = false := decide_eq_false hl
  rw [hl2, Bool.false_or]
  cases ib with
  | true =>
   go_enter Try.func91, Try.ntmps91
   go_wp2_with (first | ((with_reducible refine gate_dst (N := 2) rfl ?_); refine box_event ?hg (N := 2) ?hd (cs := #[.int .i64 x0, .int .i64 x1, .int .i64 x2, .int .i64 x3, .int .i64 x4]) (t := 95) ?hr ?_; (case hd => rfl); (case hg => rfl); (case hr => first | (go_simp; done) | (go_simp; rfl)); intro gx hgx wx hbox hbb; have HX := Aside0.mk hbox; have hbs := hbb; have m0_ := Aside0.mk (HB.out.trans (hbs.mono HB.out.size)); have m1_ := Aside0.mk (blk_below BN.out hbs); clear HB BN; have HB := m0_; have BN := m1_; clear m0_ m1_; clear hbb hbs hbox hgx; have hn0 := (blk_cell BN.out 0).trans (show _ = some (.slice A0_0 l0_0.length c0_0) from rfl); have hn1 := (blk_cell BN.out 1).trans (show _ = some (.slice A0_1 l0_1.length c0_1) from rfl); have hn2 := (blk_cell BN.out 2).trans (show _ = some (.slice A0_2 l0_2.length c0_2) from rfl); have hn3 := (blk_cell BN.out 3).trans (show _ = some (.slice A0_3 l0_3.length c0_3) from rfl); have hn4 := (blk_cell BN.out 4).trans (show _ = some (.slice A0_4 l0_4.length c0_4) from rfl); have hn5 := (blk_cell BN.out 5).trans (show _ = some (.slice A0_5 l0_5.length c0_5) from rfl); have hx0 := (blk_cell HX.out 0).trans (show _ = some (.int .i64 x0) from rfl); have hx1 := (blk_cell HX.out 1).trans (show _ = some (.int .i64 x1) from rfl); have hx2 := (blk_cell HX.out 2).trans (show _ = some (.int .i64 x2) from rfl); have hx3 := (blk_cell HX.out 3).trans (show _ = some (.int .i64 x3) from rfl); have hx4 := (blk_cell HX.out 4).trans (show _ = some (.int .i64 x4) from rfl)) | (go_at_call 89; (with_reducible refine (HLK.out _ (HW.out.trans (HB.out.mono HW.out.size))).mono ?_); rintro e wl ⟨rfl, hb⟩; clear hn0 hn1 hn2 hn3 hn4 hn5; clear hx0 hx1 hx2 hx3 hx4; have m0_ := Aside0.mk (HB.out.trans (hb.mono HB.out.size)); have m1_ := Aside0.mk (blk_below BN.out hb); have m2_ := Aside0.mk (blk_below HX.out hb); clear HB BN HX; have HB := m0_; have BN := m1_; have HX := m2_; clear m0_ m1_ m2_; clear hb; have hn0 := (blk_cell BN.out 0).trans (show _ = some (.slice A0_0 l0_0.length c0_0) from rfl); have hn1 := (blk_cell BN.out 1).trans (show _ = some (.slice A0_1 l0_1.length c0_1) from rfl); have hn2 := (blk_cell BN.out 2).trans (show _ = some (.slice A0_2 l0_2.length c0_2) from rfl); have hn3 := (blk_cell BN.out 3).trans (show _ = some (.slice A0_3 l0_3.length c0_3) from rfl); have hn4 := (blk_cell BN.out 4).trans (show _ = some (.slice A0_4 l0_4.length c0_4) from rfl); have hn5 := (blk_cell BN.out 5).trans (show _ = some (.slice A0_5 l0_5.length c0_5) from rfl); have hx0 := (blk_cell HX.out 0).trans (show _ = some (.int .i64 x0) from rfl); have hx1 := (blk_cell HX.out 1).trans (show _ = some (.int .i64 x1) from rfl); have hx2 := (blk_cell HX.out 2).trans (show _ = some (.int .i64 x2) from rfl); have hx3 := (blk_cell HX.out 3).trans (show _ = some (.int .i64 x3) from rfl); have hx4 := (blk_cell HX.out 4).trans (show _ = some (.int .i64 x4) from rfl)) | (go_at_call 92; (with_reducible refine (H2.out _).mono ?_); rintro e wi ⟨rfl, hb⟩; clear hn0 hn1 hn2 hn3 hn4 hn5; clear hx0 hx1 hx2 hx3 hx4; have m0_ := Aside0.mk (HB.out.trans (hb.mono HB.out.size)); clear HB; have HB := m0_; clear m0_; clear hb))
   go_ret
   exact ⟨rfl, HB.out⟩
  | false =>
   go_enter Try.func91, Try.ntmps91
   go_wp2_with (first | ((with_reducible refine gate_dst (N := 2) rfl ?_); refine box_event ?hg (N := 2) ?hd (cs := #[.int .i64 x0, .int .i64 x1, .int .i64 x2, .int .i64 x3, .int .i64 x4]) (t := 95) ?hr ?_; (case hd => rfl); (case hg => rfl); (case hr => first | (go_simp; done) | (go_simp; rfl)); intro gx hgx wx hbox hbb; have HX := Aside0.mk hbox; have hbs := hbb; have m0_ := Aside0.mk (HB.out.trans (hbs.mono HB.out.size)); have m1_ := Aside0.mk (blk_below BN.out hbs); clear HB BN; have HB := m0_; have BN := m1_; clear m0_ m1_; clear hbb hbs hbox hgx; have hn0 := (blk_cell BN.out 0).trans (show _ = some (.slice A0_0 l0_0.length c0_0) from rfl); have hn1 := (blk_cell BN.out 1).trans (show _ = some (.slice A0_1 l0_1.length c0_1) from rfl); have hn2 := (blk_cell BN.out 2).trans (show _ = some (.slice A0_2 l0_2.length c0_2) from rfl); have hn3 := (blk_cell BN.out 3).trans (show _ = some (.slice A0_3 l0_3.length c0_3) from rfl); have hn4 := (blk_cell BN.out 4).trans (show _ = some (.slice A0_4 l0_4.length c0_4) from rfl); have hn5 := (blk_cell BN.out 5).trans (show _ = some (.slice A0_5 l0_5.length c0_5) from rfl); have hx0 := (blk_cell HX.out 0).trans (show _ = some (.int .i64 x0) from rfl); have hx1 := (blk_cell HX.out 1).trans (show _ = some (.int .i64 x1) from rfl); have hx2 := (blk_cell HX.out 2).trans (show _ = some (.int .i64 x2) from rfl); have hx3 := (blk_cell HX.out 3).trans (show _ = some (.int .i64 x3) from rfl); have hx4 := (blk_cell HX.out 4).trans (show _ = some (.int .i64 x4) from rfl)) | (go_at_call 89; (with_reducible refine (HLK.out _ (HW.out.trans (HB.out.mono HW.out.size))).mono ?_); rintro e wl ⟨rfl, hb⟩; clear hn0 hn1 hn2 hn3 hn4 hn5; clear hx0 hx1 hx2 hx3 hx4; have m0_ := Aside0.mk (HB.out.trans (hb.mono HB.out.size)); have m1_ := Aside0.mk (blk_below BN.out hb); have m2_ := Aside0.mk (blk_below HX.out hb); clear HB BN HX; have HB := m0_; have BN := m1_; have HX := m2_; clear m0_ m1_ m2_; clear hb; have hn0 := (blk_cell BN.out 0).trans (show _ = some (.slice A0_0 l0_0.length c0_0) from rfl); have hn1 := (blk_cell BN.out 1).trans (show _ = some (.slice A0_1 l0_1.length c0_1) from rfl); have hn2 := (blk_cell BN.out 2).trans (show _ = some (.slice A0_2 l0_2.length c0_2) from rfl); have hn3 := (blk_cell BN.out 3).trans (show _ = some (.slice A0_3 l0_3.length c0_3) from rfl); have hn4 := (blk_cell BN.out 4).trans (show _ = some (.slice A0_4 l0_4.length c0_4) from rfl); have hn5 := (blk_cell BN.out 5).trans (show _ = some (.slice A0_5 l0_5.length c0_5) from rfl); have hx0 := (blk_cell HX.out 0).trans (show _ = some (.int .i64 x0) from rfl); have hx1 := (blk_cell HX.out 1).trans (show _ = some (.int .i64 x1) from rfl); have hx2 := (blk_cell HX.out 2).trans (show _ = some (.int .i64 x2) from rfl); have hx3 := (blk_cell HX.out 3).trans (show _ = some (.int .i64 x3) from rfl); have hx4 := (blk_cell HX.out 4).trans (show _ = some (.int .i64 x4) from rfl)) | (go_at_call 92; (with_reducible refine (H2.out _).mono ?_); rintro e wi ⟨rfl, hb⟩; clear hn0 hn1 hn2 hn3 hn4 hn5; clear hx0 hx1 hx2 hx3 hx4; have m0_ := Aside0.mk (HB.out.trans (hb.mono HB.out.size)); clear HB; have HB := m0_; clear m0_; clear hb))
   go_ret
   exact ⟨rfl, HB.out⟩
set_option maxHeartbeats 1600000 in
set_option maxRecDepth 100000 in
theorem filt_fn (A0_0 : Option Addr) (c0_0 : Nat) (l0_0 : List ByteArray) (A0_1 : Option Addr) (c0_1 : Nat) (l0_1 : List S92) (A0_2 : Option Addr) (c0_2 : Nat) (l0_2 : List Int) (A0_3 : Option Addr) (c0_3 : Nat) (l0_3 : List Int) (A0_4 : Option Addr) (c0_4 : Nat) (l0_4 : List S95) (A0_5 : Option Addr) (c0_5 : Nat) (l0_5 : List S97) (w : World) (HN : Aside0 (Kd.C Kd.string w A0_0 l0_0.length l0_0 ∧ l0_0.length ≤ c0_0 ∧ Kd.C k92 w A0_1 l0_1.length l0_1 ∧ l0_1.length ≤ c0_1 ∧ Kd.C (Kd.int .i64) w A0_2 l0_2.length l0_2 ∧ l0_2.length ≤ c0_2 ∧ Kd.C (Kd.int .i64) w A0_3 l0_3.length l0_3 ∧ l0_3.length ≤ c0_3 ∧ Kd.C k95 w A0_4 l0_4.length l0_4 ∧ l0_4.length ≤ c0_4 ∧ Kd.C k97 w A0_5 l0_5.length l0_5 ∧ l0_5.length ≤ c0_5)) (gn : Nat) (x : S97) (W : World) (hb : Below w.heap.size w W) (hn : W.heap[gn]? = some (.cells #[.slice A0_0 l0_0.length c0_0, .slice A0_1 l0_1.length c0_1, .slice A0_2 l0_2.length c0_2, .slice A0_3 l0_3.length c0_3, .slice A0_4 l0_4.length c0_4, .slice A0_5 l0_5.length c0_5] 38 (0, 0))) :
  Calls Try.prog 94 #[.agg #[.int .i64 x.f0, .int .i64 x.f1, .int .i64 x.f2, .int .i64 x.f3], .pointer (some ⟨gn, 0, none⟩)] W fun e W' => e = .returned (.bool (filtBad l0_1 x)) ∧ Below W.heap.size W W' := by
 have hu97 := Try.underlying97
 have hu38 := Try.underlying38
 have BN := Aside0.mk hn
 have HB := Aside0.mk (Below.refl W.heap.size W)
 have HW := Aside0.mk hb
 have hlk := fun (V : World) (hV : Below w.heap.size w V) => impl_linkOf.calls A0_0 c0_0 l0_0 A0_1 c0_1 l0_1 A0_2 c0_2 l0_2 A0_3 c0_3 l0_3 A0_4 c0_4 l0_4 A0_5 c0_5 l0_5 x.f0 x.f1 (linkI l0_1 x.f0 x.f1) V (Kd.C_below HN.out.1 hV) HN.out.2.1 (Kd.C_below HN.out.2.2.1 hV) HN.out.2.2.2.1 (Kd.C_below HN.out.2.2.2.2.1 hV) HN.out.2.2.2.2.2.1 (Kd.C_below HN.out.2.2.2.2.2.2.1 hV) HN.out.2.2.2.2.2.2.2.1 (Kd.C_below HN.out.2.2.2.2.2.2.2.2.1 hV) HN.out.2.2.2.2.2.2.2.2.2.1 (Kd.C_below HN.out.2.2.2.2.2.2.2.2.2.2.1 hV) HN.out.2.2.2.2.2.2.2.2.2.2.2 rfl
 have hwi := fun (V : World) => impl_within.calls x.f2 0 x.f3 _ V (within_is x.f2 0 x.f3)
 unfold filtBad
 obtain ⟨x0, x1, x2, x3⟩ := x
 dsimp only at hlk hwi ⊢
 have HLK := Aside0.mk hlk
 have H2 := Aside0.mk hwi
 clear hlk hwi hn hb
 generalize linkI l0_1 x0 x1 = lk at HLK ⊢
 generalize inB x2 0 x3 = ib at H2 ⊢
 by_cases hl : lk < 0
 ·have hl2 : decide (lk < 0) = true := decide_eq_true hl
  rw [hl2, Bool.true_or]
  go_enter Try.func94, Try.ntmps94
  go_wp2_with (first | ((with_reducible refine gate_dst (N := 2) rfl ?_); refine box_event ?hg (N := 2) ?hd (cs := #[.int .i64 x0, .int .i64 x1, .int .i64 x2, .int .i64 x3]) (t := 97) ?hr ?_; (case hd => rfl); (case hg => rfl); (case hr => first | (go_simp; done) | (go_simp; rfl)); intro gx hgx wx hbox hbb; have HX := Aside0.mk hbox; have hbs := hbb; have m0_ := Aside0.mk (HB.out.trans (hbs.mono HB.out.size)); have m1_ := Aside0.mk (blk_below BN.out hbs); clear HB BN; have HB := m0_; have BN := m1_; clear m0_ m1_; clear hbb hbs hbox hgx; have hn0 := (blk_cell BN.out 0).trans (show _ = some (.slice A0_0 l0_0.length c0_0) from rfl); have hn1 := (blk_cell BN.out 1).trans (show _ = some (.slice A0_1 l0_1.length c0_1) from rfl); have hn2 := (blk_cell BN.out 2).trans (show _ = some (.slice A0_2 l0_2.length c0_2) from rfl); have hn3 := (blk_cell BN.out 3).trans (show _ = some (.slice A0_3 l0_3.length c0_3) from rfl); have hn4 := (blk_cell BN.out 4).trans (show _ = some (.slice A0_4 l0_4.length c0_4) from rfl); have hn5 := (blk_cell BN.out 5).trans (show _ = some (.slice A0_5 l0_5.length c0_5) from rfl); have hx0 := (blk_cell HX.out 0).trans (show _ = some (.int .i64 x0) from rfl); have hx1 := (blk_cell HX.out 1).trans (show _ = some (.int .i64 x1) from rfl); have hx2 := (blk_cell HX.out 2).trans (show _ = some (.int .i64 x2) from rfl); have hx3 := (blk_cell HX.out 3).trans (show _ = some (.int .i64 x3) from rfl)) | (go_at_call 89; (with_reducible refine (HLK.out _ (HW.out.trans (HB.out.mono HW.out.size))).mono ?_); rintro e wl ⟨rfl, hb⟩; clear hn0 hn1 hn2 hn3 hn4 hn5; clear hx0 hx1 hx2 hx3; have m0_ := Aside0.mk (HB.out.trans (hb.mono HB.out.size)); have m1_ := Aside0.mk (blk_below BN.out hb); have m2_ := Aside0.mk (blk_below HX.out hb); clear HB BN HX; have HB := m0_; have BN := m1_; have HX := m2_; clear m0_ m1_ m2_; clear hb; have hn0 := (blk_cell BN.out 0).trans (show _ = some (.slice A0_0 l0_0.length c0_0) from rfl); have hn1 := (blk_cell BN.out 1).trans (show _ = some (.slice A0_1 l0_1.length c0_1) from rfl); have hn2 := (blk_cell BN.out 2).trans (show _ = some (.slice A0_2 l0_2.length c0_2) from rfl); have hn3 := (blk_cell BN.out 3).trans (show _ = some (.slice A0_3 l0_3.length c0_3) from rfl); have hn4 := (blk_cell BN.out 4).trans (show _ = some (.slice A0_4 l0_4.length c0_4) from rfl); have hn5 := (blk_cell BN.out 5).trans (show _ = some (.slice A0_5 l0_5.length c0_5) from rfl); have hx0 := (blk_cell HX.out 0).trans (show _ = some (.int .i64 x0) from rfl); have hx1 := (blk_cell HX.out 1).trans (show _ = some (.int .i64 x1) from rfl); have hx2 := (blk_cell HX.out 2).trans (show _ = some (.int .i64 x2) from rfl); have hx3 := (blk_cell HX.out 3).trans (show _ = some (.int .i64 x3) from rfl)))
  go_ret
  exact ⟨rfl, HB.out⟩
 ·have hl2 : decide (lk < 0) = false := decide_eq_false hl
  rw [hl2, Bool.false_or]
  cases ib with
  | false =>
   go_enter Try.func94, Try.ntmps94
   go_wp2_with (first | ((with_reducible refine gate_dst (N := 2) rfl ?_); refine box_event ?hg (N := 2) ?hd (cs := #[.int .i64 x0, .int .i64 x1, .int .i64 x2, .int .i64 x3]) (t := 97) ?hr ?_; (case hd => rfl); (case hg => rfl); (case hr => first | (go_simp; done) | (go_simp; rfl)); intro gx hgx wx hbox hbb; have HX := Aside0.mk hbox; have hbs := hbb; have m0_ := Aside0.mk (HB.out.trans (hbs.mono HB.out.size)); have m1_ := Aside0.mk (blk_below BN.out hbs); clear HB BN; have HB := m0_; have BN := m1_; clear m0_ m1_; clear hbb hbs hbox hgx; have hn0 := (blk_cell BN.out 0).trans (show _ = some (.slice A0_0 l0_0.length c0_0) from rfl); have hn1 := (blk_cell BN.out 1).trans (show _ = some (.slice A0_1 l0_1.length c0_1) from rfl); have hn2 := (blk_cell BN.out 2).trans (show _ = some (.slice A0_2 l0_2.length c0_2) from rfl); have hn3 := (blk_cell BN.out 3).trans (show _ = some (.slice A0_3 l0_3.length c0_3) from rfl); have hn4 := (blk_cell BN.out 4).trans (show _ = some (.slice A0_4 l0_4.length c0_4) from rfl); have hn5 := (blk_cell BN.out 5).trans (show _ = some (.slice A0_5 l0_5.length c0_5) from rfl); have hx0 := (blk_cell HX.out 0).trans (show _ = some (.int .i64 x0) from rfl); have hx1 := (blk_cell HX.out 1).trans (show _ = some (.int .i64 x1) from rfl); have hx2 := (blk_cell HX.out 2).trans (show _ = some (.int .i64 x2) from rfl); have hx3 := (blk_cell HX.out 3).trans (show _ = some (.int .i64 x3) from rfl)) | (go_at_call 89; (with_reducible refine (HLK.out _ (HW.out.trans (HB.out.mono HW.out.size))).mono ?_); rintro e wl ⟨rfl, hb⟩; clear hn0 hn1 hn2 hn3 hn4 hn5; clear hx0 hx1 hx2 hx3; have m0_ := Aside0.mk (HB.out.trans (hb.mono HB.out.size)); have m1_ := Aside0.mk (blk_below BN.out hb); have m2_ := Aside0.mk (blk_below HX.out hb); clear HB BN HX; have HB := m0_; have BN := m1_; have HX := m2_; clear m0_ m1_ m2_; clear hb; have hn0 := (blk_cell BN.out 0).trans (show _ = some (.slice A0_0 l0_0.length c0_0) from rfl); have hn1 := (blk_cell BN.out 1).trans (show _ = some (.slice A0_1 l0_1.length c0_1) from rfl); have hn2 := (blk_cell BN.out 2).trans (show _ = some (.slice A0_2 l0_2.length c0_2) from rfl); have hn3 := (blk_cell BN.out 3).trans (show _ = some (.slice A0_3 l0_3.length c0_3) from rfl); have hn4 := (blk_cell BN.out 4).trans (show _ = some (.slice A0_4 l0_4.length c0_4) from rfl); have hn5 := (blk_cell BN.out 5).trans (show _ = some (.slice A0_5 l0_5.length c0_5) from rfl); have hx0 := (blk_cell HX.out 0).trans (show _ = some (.int .i64 x0) from rfl); have hx1 := (blk_cell HX.out 1).trans (show _ = some (.int .i64 x1) from rfl); have hx2 := (blk_cell HX.out 2).trans (show _ = some (.int .i64 x2) from rfl); have hx3 := (blk_cell HX.out 3).trans (show _ = some (.int .i64 x3) from rfl)) | (go_at_call 80; (with_reducible refine (H2.out _).mono ?_); rintro e wi ⟨rfl, hd⟩; have hb := hd.below; clear hd; clear hn0 hn1 hn2 hn3 hn4 hn5; clear hx0 hx1 hx2 hx3; have m0_ := Aside0.mk (HB.out.trans (hb.mono HB.out.size)); have m1_ := Aside0.mk (blk_below HX.out hb); clear HB HX; have HB := m0_; have HX := m1_; clear m0_ m1_; clear hb; have hx0 := (blk_cell HX.out 0).trans (show _ = some (.int .i64 x0) from rfl); have hx1 := (blk_cell HX.out 1).trans (show _ = some (.int .i64 x1) from rfl); have hx2 := (blk_cell HX.out 2).trans (show _ = some (.int .i64 x2) from rfl); have hx3 := (blk_cell HX.out 3).trans (show _ = some (.int .i64 x3) from rfl)))
   go_ret
   exact ⟨rfl, HB.out⟩
  | true =>
   by_cases h3 : x3 > 15
   ·have h32 : decide (x3 > 15) = true := decide_eq_true h3
    rw [h32]
    go_enter Try.func94, Try.ntmps94
    go_wp2_with (first | ((with_reducible refine gate_dst (N := 2) rfl ?_); refine box_event ?hg (N := 2) ?hd (cs := #[.int .i64 x0, .int .i64 x1, .int .i64 x2, .int .i64 x3]) (t := 97) ?hr ?_; (case hd => rfl); (case hg => rfl); (case hr => first | (go_simp; done) | (go_simp; rfl)); intro gx hgx wx hbox hbb; have HX := Aside0.mk hbox; have hbs := hbb; have m0_ := Aside0.mk (HB.out.trans (hbs.mono HB.out.size)); have m1_ := Aside0.mk (blk_below BN.out hbs); clear HB BN; have HB := m0_; have BN := m1_; clear m0_ m1_; clear hbb hbs hbox hgx; have hn0 := (blk_cell BN.out 0).trans (show _ = some (.slice A0_0 l0_0.length c0_0) from rfl); have hn1 := (blk_cell BN.out 1).trans (show _ = some (.slice A0_1 l0_1.length c0_1) from rfl); have hn2 := (blk_cell BN.out 2).trans (show _ = some (.slice A0_2 l0_2.length c0_2) from rfl); have hn3 := (blk_cell BN.out 3).trans (show _ = some (.slice A0_3 l0_3.length c0_3) from rfl); have hn4 := (blk_cell BN.out 4).trans (show _ = some (.slice A0_4 l0_4.length c0_4) from rfl); have hn5 := (blk_cell BN.out 5).trans (show _ = some (.slice A0_5 l0_5.length c0_5) from rfl); have hx0 := (blk_cell HX.out 0).trans (show _ = some (.int .i64 x0) from rfl); have hx1 := (blk_cell HX.out 1).trans (show _ = some (.int .i64 x1) from rfl); have hx2 := (blk_cell HX.out 2).trans (show _ = some (.int .i64 x2) from rfl); have hx3 := (blk_cell HX.out 3).trans (show _ = some (.int .i64 x3) from rfl)) | (go_at_call 89; (with_reducible refine (HLK.out _ (HW.out.trans (HB.out.mono HW.out.size))).mono ?_); rintro e wl ⟨rfl, hb⟩; clear hn0 hn1 hn2 hn3 hn4 hn5; clear hx0 hx1 hx2 hx3; have m0_ := Aside0.mk (HB.out.trans (hb.mono HB.out.size)); have m1_ := Aside0.mk (blk_below BN.out hb); have m2_ := Aside0.mk (blk_below HX.out hb); clear HB BN HX; have HB := m0_; have BN := m1_; have HX := m2_; clear m0_ m1_ m2_; clear hb; have hn0 := (blk_cell BN.out 0).trans (show _ = some (.slice A0_0 l0_0.length c0_0) from rfl); have hn1 := (blk_cell BN.out 1).trans (show _ = some (.slice A0_1 l0_1.length c0_1) from rfl); have hn2 := (blk_cell BN.out 2).trans (show _ = some (.slice A0_2 l0_2.length c0_2) from rfl); have hn3 := (blk_cell BN.out 3).trans (show _ = some (.slice A0_3 l0_3.length c0_3) from rfl); have hn4 := (blk_cell BN.out 4).trans (show _ = some (.slice A0_4 l0_4.length c0_4) from rfl); have hn5 := (blk_cell BN.out 5).trans (show _ = some (.slice A0_5 l0_5.length c0_5) from rfl); have hx0 := (blk_cell HX.out 0).trans (show _ = some (.int .i64 x0) from rfl); have hx1 := (blk_cell HX.out 1).trans (show _ = some (.int .i64 x1) from rfl); have hx2 := (blk_cell HX.out 2).trans (show _ = some (.int .i64 x2) from rfl); have hx3 := (blk_cell HX.out 3).trans (show _ = some (.int .i64 x3) from rfl)) | (go_at_call 80; (with_reducible refine (H2.out _).mono ?_); rintro e wi ⟨rfl, hd⟩; have hb := hd.below; clear hd; clear hn0 hn1 hn2 hn3 hn4 hn5; clear hx0 hx1 hx2 hx3; have m0_ := Aside0.mk (HB.out.trans (hb.mono HB.out.size)); have m1_ := Aside0.mk (blk_below HX.out hb); clear HB HX; have HB := m0_; have HX := m1_; clear m0_ m1_; clear hb; have hx0 := (blk_cell HX.out 0).trans (show _ = some (.int .i64 x0) from rfl); have hx1 := (blk_cell HX.out 1).trans (show _ = some (.int .i64 x1) from rfl); have hx2 := (blk_cell HX.out 2).trans (show _ = some (.int .i64 x2) from rfl); have hx3 := (blk_cell HX.out 3).trans (show _ = some (.int .i64 x3) from rfl)))
    go_ret
    exact ⟨rfl, HB.out⟩
   ·have h32 : decide (x3 > 15) = false := decide_eq_false h3
    rw [h32]
    go_enter Try.func94, Try.ntmps94
    go_wp2_with (first | ((with_reducible refine gate_dst (N := 2) rfl ?_); refine box_event ?hg (N := 2) ?hd (cs := #[.int .i64 x0, .int .i64 x1, .int .i64 x2, .int .i64 x3]) (t := 97) ?hr ?_; (case hd => rfl); (case hg => rfl); (case hr => first | (go_simp; done) | (go_simp; rfl)); intro gx hgx wx hbox hbb; have HX := Aside0.mk hbox; have hbs := hbb; have m0_ := Aside0.mk (HB.out.trans (hbs.mono HB.out.size)); have m1_ := Aside0.mk (blk_below BN.out hbs); clear HB BN; have HB := m0_; have BN := m1_; clear m0_ m1_; clear hbb hbs hbox hgx; have hn0 := (blk_cell BN.out 0).trans (show _ = some (.slice A0_0 l0_0.length c0_0) from rfl); have hn1 := (blk_cell BN.out 1).trans (show _ = some (.slice A0_1 l0_1.length c0_1) from rfl); have hn2 := (blk_cell BN.out 2).trans (show _ = some (.slice A0_2 l0_2.length c0_2) from rfl); have hn3 := (blk_cell BN.out 3).trans (show _ = some (.slice A0_3 l0_3.length c0_3) from rfl); have hn4 := (blk_cell BN.out 4).trans (show _ = some (.slice A0_4 l0_4.length c0_4) from rfl); have hn5 := (blk_cell BN.out 5).trans (show _ = some (.slice A0_5 l0_5.length c0_5) from rfl); have hx0 := (blk_cell HX.out 0).trans (show _ = some (.int .i64 x0) from rfl); have hx1 := (blk_cell HX.out 1).trans (show _ = some (.int .i64 x1) from rfl); have hx2 := (blk_cell HX.out 2).trans (show _ = some (.int .i64 x2) from rfl); have hx3 := (blk_cell HX.out 3).trans (show _ = some (.int .i64 x3) from rfl)) | (go_at_call 89; (with_reducible refine (HLK.out _ (HW.out.trans (HB.out.mono HW.out.size))).mono ?_); rintro e wl ⟨rfl, hb⟩; clear hn0 hn1 hn2 hn3 hn4 hn5; clear hx0 hx1 hx2 hx3; have m0_ := Aside0.mk (HB.out.trans (hb.mono HB.out.size)); have m1_ := Aside0.mk (blk_below BN.out hb); have m2_ := Aside0.mk (blk_below HX.out hb); clear HB BN HX; have HB := m0_; have BN := m1_; have HX := m2_; clear m0_ m1_ m2_; clear hb; have hn0 := (blk_cell BN.out 0).trans (show _ = some (.slice A0_0 l0_0.length c0_0) from rfl); have hn1 := (blk_cell BN.out 1).trans (show _ = some (.slice A0_1 l0_1.length c0_1) from rfl); have hn2 := (blk_cell BN.out 2).trans (show _ = some (.slice A0_2 l0_2.length c0_2) from rfl); have hn3 := (blk_cell BN.out 3).trans (show _ = some (.slice A0_3 l0_3.length c0_3) from rfl); have hn4 := (blk_cell BN.out 4).trans (show _ = some (.slice A0_4 l0_4.length c0_4) from rfl); have hn5 := (blk_cell BN.out 5).trans (show _ = some (.slice A0_5 l0_5.length c0_5) from rfl); have hx0 := (blk_cell HX.out 0).trans (show _ = some (.int .i64 x0) from rfl); have hx1 := (blk_cell HX.out 1).trans (show _ = some (.int .i64 x1) from rfl); have hx2 := (blk_cell HX.out 2).trans (show _ = some (.int .i64 x2) from rfl); have hx3 := (blk_cell HX.out 3).trans (show _ = some (.int .i64 x3) from rfl)) | (go_at_call 80; (with_reducible refine (H2.out _).mono ?_); rintro e wi ⟨rfl, hd⟩; have hb := hd.below; clear hd; clear hn0 hn1 hn2 hn3 hn4 hn5; clear hx0 hx1 hx2 hx3; have m0_ := Aside0.mk (HB.out.trans (hb.mono HB.out.size)); have m1_ := Aside0.mk (blk_below HX.out hb); clear HB HX; have HB := m0_; have HX := m1_; clear m0_ m1_; clear hb; have hx0 := (blk_cell HX.out 0).trans (show _ = some (.int .i64 x0) from rfl); have hx1 := (blk_cell HX.out 1).trans (show _ = some (.int .i64 x1) from rfl); have hx2 := (blk_cell HX.out 2).trans (show _ = some (.int .i64 x2) from rfl); have hx3 := (blk_cell HX.out 3).trans (show _ = some (.int .i64 x3) from rfl)))
    go_ret
    exact ⟨rfl, HB.out⟩
theorem box_put92 {W : World} {g : Nat} {u0 u1 u2 a b v : Value} (hb : W.heap[g]? = some (.cells #[u0, u1, u2] 92 (0, 0))) : (((W.setCell ⟨g, 0, none⟩ a).setCell ⟨g, 1, none⟩ b).setCell ⟨g, 2, none⟩ v).heap[g]? = some (.cells #[a, b, v] 92 (0, 0)) ∧ Kept W (((W.setCell ⟨g, 0, none⟩ a).setCell ⟨g, 1, none⟩ b).setCell ⟨g, 2, none⟩ v) (fun k => k = g) ∧ ∀ w0 : World, Below w0.heap.size w0 W → w0.heap.size ≤ g → Below w0.heap.size w0 (((W.setCell ⟨g, 0, none⟩ a).setCell ⟨g, 1, none⟩ b).setCell ⟨g, 2, none⟩ v) := by
 have hs : ∀ (V : World) (i : Nat) (u : Value), Kept V (V.setCell ⟨g, i, none⟩ u) (fun k => k = g) := fun V i u => Kept.setCell (S := fun k => k = g) (p := ⟨g, i, none⟩) (Kept.refl V _) (.inl rfl) u
 exact ⟨blk_put (cs := #[a, b, u2]) (blk_put (cs := #[a, u1, u2]) (blk_put hb 0 a rfl) 1 b rfl) 2 v rfl, ((hs _ 0 _).then_ (hs _ 1 _) (fun _ h => .inl h)).then_ (hs _ 2 _) (fun _ h => .inl h), fun w0 h1 h2 => below_set (below_set (below_set h1 h2) h2) h2⟩
set_option maxHeartbeats 6400000 in
set_option maxRecDepth 100000 in
theorem impl_isNet.calls (k : Nat) (A0_0 : Option Addr) (c0_0 : Nat) (l0_0 : List ByteArray) (A0_1 : Option Addr) (c0_1 : Nat) (l0_1 : List S92) (A0_2 : Option Addr) (c0_2 : Nat) (l0_2 : List Int) (A0_3 : Option Addr) (c0_3 : Nat) (l0_3 : List Int) (A0_4 : Option Addr) (c0_4 : Nat) (l0_4 : List S95) (A0_5 : Option Addr) (c0_5 : Nat) (l0_5 : List S97) (r : Bool) (w : World) (hr0_0 : Kd.C Kd.string w A0_0 l0_0.length l0_0) (hc0_0 : l0_0.length ≤ c0_0) (hr0_1 : Kd.C k92 w A0_1 l0_1.length l0_1) (hc0_1 : l0_1.length ≤ c0_1) (hr0_2 : Kd.C (Kd.int .i64) w A0_2 l0_2.length l0_2) (hc0_2 : l0_2.length ≤ c0_2) (hr0_3 : Kd.C (Kd.int .i64) w A0_3 l0_3.length l0_3) (hc0_3 : l0_3.length ≤ c0_3) (hr0_4 : Kd.C k95 w A0_4 l0_4.length l0_4) (hc0_4 : l0_4.length ≤ c0_4) (hr0_5 : Kd.C k97 w A0_5 l0_5.length l0_5) (hc0_5 : l0_5.length ≤ c0_5) (h : impl_isNet.f k l0_0 l0_1 l0_2 l0_3 l0_4 l0_5 = some r) :
  Calls Try.prog 62 #[.agg #[.slice A0_0 l0_0.length c0_0, .slice A0_1 l0_1.length c0_1, .slice A0_2 l0_2.length c0_2, .slice A0_3 l0_3.length c0_3, .slice A0_4 l0_4.length c0_4, .slice A0_5 l0_5.length c0_5]] w fun e w' => e = .returned (.bool r) ∧ Below w.heap.size w w' := by
 have hu38 := Try.underlying38
 have hu92 := Try.underlying92
 have HN : Aside0 (Kd.C Kd.string w A0_0 l0_0.length l0_0 ∧ l0_0.length ≤ c0_0 ∧ Kd.C k92 w A0_1 l0_1.length l0_1 ∧ l0_1.length ≤ c0_1 ∧ Kd.C (Kd.int .i64) w A0_2 l0_2.length l0_2 ∧ l0_2.length ≤ c0_2 ∧ Kd.C (Kd.int .i64) w A0_3 l0_3.length l0_3 ∧ l0_3.length ≤ c0_3 ∧ Kd.C k95 w A0_4 l0_4.length l0_4 ∧ l0_4.length ≤ c0_4 ∧ Kd.C k97 w A0_5 l0_5.length l0_5 ∧ l0_5.length ≤ c0_5) := ⟨hr0_0, hc0_0, hr0_1, hc0_1, hr0_2, hc0_2, hr0_3, hc0_3, hr0_4, hc0_4, hr0_5, hc0_5⟩
 have hm0 : l0_0.length ≤ 9223372036854775807 := Kd.C_max hr0_0
 have hm1 : l0_1.length ≤ 9223372036854775807 := Kd.C_max hr0_1
 have HM := Aside0.mk (And.intro hm0 hm1)
 clear hr0_0 hc0_0 hr0_1 hc0_1 hr0_2 hc0_2 hr0_3 hc0_3 hr0_4 hc0_4 hr0_5 hc0_5 hm0 hm1
 have HB := Aside0.mk (Below.refl w.heap.size w)
 unfold impl_isNet.f at h
 by_cases hg0 : inB l0_0.length 1 4 = true
 ·by_cases hg1 : l0_1.length ≤ 6
  ·have hz1 : decide ((l0_1.length : Int) > 6) = false := decide_eq_false (by omega)
   ·by_cases hg4 : l0_4.length ≤ 12
    ·have hz4 : decide ((l0_4.length : Int) > 12) = false := decide_eq_false (by omega)
     ·by_cases hg5 : l0_5.length ≤ 6
      ·have hz5 : decide ((l0_5.length : Int) > 6) = false := decide_eq_false (by omega)
       rw [if_pos ⟨hg0, hg1, hg4, hg5⟩] at h
       clear hg1 hg4 hg5
       replace h := Option.bind_eq_some_iff.1 h
       obtain ⟨t, hnm, h⟩ := h
       have H := Aside0.mk h
       have HNM : Aside0 (namesO k l0_0 (l0_0.drop 0) 0 = some t) := ⟨by rw [List.drop_zero]; exact hnm⟩
       clear h hnm
       go_enter Try.func62, Try.ntmps62
       go_wp2_with (first | ((with_reducible refine gate_dst (N := 1) rfl ?_); refine box_event ?hg (N := 1) ?hd (cs := #[.slice A0_0 l0_0.length c0_0, .slice A0_1 l0_1.length c0_1, .slice A0_2 l0_2.length c0_2, .slice A0_3 l0_3.length c0_3, .slice A0_4 l0_4.length c0_4, .slice A0_5 l0_5.length c0_5]) (t := 38) ?hr ?_; (case hd => rfl); (case hg => rfl); (case hr => first | (go_simp; done) | (go_simp; rfl)); intro gn hgn wn hbox hbb; have BN := Aside0.mk (And.intro hbox (show w.heap.size ≤ gn by rw [hgn]; exact HB.out.size)); have m0_ := Aside0.mk (HB.out.trans (hbb.mono HB.out.size)); clear HB; have HB := m0_; clear m0_; clear hbb hbox hgn; have hn0 := (blk_cell BN.out.1 0).trans (show _ = some (.slice A0_0 l0_0.length c0_0) from rfl); have hn1 := (blk_cell BN.out.1 1).trans (show _ = some (.slice A0_1 l0_1.length c0_1) from rfl); have hn2 := (blk_cell BN.out.1 2).trans (show _ = some (.slice A0_2 l0_2.length c0_2) from rfl); have hn3 := (blk_cell BN.out.1 3).trans (show _ = some (.slice A0_3 l0_3.length c0_3) from rfl); have hn4 := (blk_cell BN.out.1 4).trans (show _ = some (.slice A0_4 l0_4.length c0_4) from rfl); have hn5 := (blk_cell BN.out.1 5).trans (show _ = some (.slice A0_5 l0_5.length c0_5) from rfl)) | (go_at_call 80; (with_reducible refine (impl_within.calls (l0_0.length : Int) 1 4 _ _ (within_is _ 1 4)).mono ?_); rintro e wi ⟨rfl, hd⟩; have hb := hd.below; clear hd; clear hn0 hn1 hn2 hn3 hn4 hn5; have m0_ := Aside0.mk (HB.out.trans (hb.mono HB.out.size)); have m1_ := Aside0.mk (And.intro (blk_below BN.out.1 hb) BN.out.2); clear HB BN; have HB := m0_; have BN := m1_; clear m0_ m1_; clear hb; have hn0 := (blk_cell BN.out.1 0).trans (show _ = some (.slice A0_0 l0_0.length c0_0) from rfl); have hn1 := (blk_cell BN.out.1 1).trans (show _ = some (.slice A0_1 l0_1.length c0_1) from rfl); have hn2 := (blk_cell BN.out.1 2).trans (show _ = some (.slice A0_2 l0_2.length c0_2) from rfl); have hn3 := (blk_cell BN.out.1 3).trans (show _ = some (.slice A0_3 l0_3.length c0_3) from rfl); have hn4 := (blk_cell BN.out.1 4).trans (show _ = some (.slice A0_4 l0_4.length c0_4) from rfl); have hn5 := (blk_cell BN.out.1 5).trans (show _ = some (.slice A0_5 l0_5.length c0_5) from rfl)))
       clear hn0 hn1 hn2 hn3 hn4 hn5
       go_loopg [33] l0_0.length (fun gg s33 wr => ∃ kk : Nat, kk ≤ l0_0.length ∧ l0_0.length - kk ≤ gg ∧ s33 = .int .i64 kk ∧ Aside0 (Below w.heap.size w wr) ∧ Aside0 (wr.heap[gn]? = some (.cells #[.slice A0_0 l0_0.length c0_0, .slice A0_1 l0_1.length c0_1, .slice A0_2 l0_2.length c0_2, .slice A0_3 l0_3.length c0_3, .slice A0_4 l0_4.length c0_4, .slice A0_5 l0_5.length c0_5] 38 (0, 0)) ∧ w.heap.size ≤ gn) ∧ Aside0 (namesO k l0_0 (l0_0.drop kk) kk = some t))
       case atStart => exact ⟨0, Nat.zero_le _, by omega, rfl, HB, BN, HNM⟩
       case round =>
        clear HNM HB BN
        obtain ⟨kk, hkk, hg, rfl, HB, BN, HNM⟩ := hrel
        have HM0 := HM.out.1
        have hN := HNM.out
        clear HNM
        by_cases hlt : kk < l0_0.length
        ·have hltz : (kk : Int) < (l0_0.length : Int) := by omega
         have HKS := Aside0.mk (Kd.C_take (m := kk) HN.out.1 hkk)
         have HTK : Aside0 ((l0_0.take kk).length ≤ c0_0) := ⟨by rw [List.length_take]; exact Nat.le_trans (Nat.min_le_right _ _) HN.out.2.1⟩
         have hkc : kk ≤ c0_0 := Nat.le_trans hkk HN.out.2.1
         have hkc2 : (kk : Int) ≤ (c0_0 : Int) := Int.ofNat_le.2 hkc
         have hkc0 : (0 : Int) ≤ (kk : Int) := Int.natCast_nonneg _
         obtain ⟨ad, ea, hx⟩ := Kd.at_string HN.out.1 (kk : Int) (by omega) (by omega)
         cases ea
         rw [Int.toNat_natCast] at hx
         replace hx := (HB.out.cell (World.block_lt_of_cell? w _ hx)).trans hx
         have hrd : rdOf ByteArray.empty l0_0 (kk : Int) = l0_0[kk] := by unfold rdOf; simp [List.getD, hlt]
         rw [hrd] at hx
         rw [List.drop_eq_getElem_cons hlt, namesO] at hN
         have ew : IntKind.i64.wrap ((kk : Int) + 1) = ((kk + 1 : Nat) : Int) := IntWalk.i64_in _ (by omega)
         clear hrd
         generalize l0_0[kk] = y at hN hx
         replace hN := Option.bind_eq_some_iff.1 hN
         obtain ⟨a, ha, hN⟩ := hN
         have HY := Aside0.mk ha
         clear ha
         have hn0 := (blk_cell BN.out.1 0).trans (show _ = some (.slice (some ad) l0_0.length c0_0) from rfl)
         have hn1 := (blk_cell BN.out.1 1).trans (show _ = some (.slice A0_1 l0_1.length c0_1) from rfl)
         have hn2 := (blk_cell BN.out.1 2).trans (show _ = some (.slice A0_2 l0_2.length c0_2) from rfl)
         have hn3 := (blk_cell BN.out.1 3).trans (show _ = some (.slice A0_3 l0_3.length c0_3) from rfl)
         have hn4 := (blk_cell BN.out.1 4).trans (show _ = some (.slice A0_4 l0_4.length c0_4) from rfl)
         have hn5 := (blk_cell BN.out.1 5).trans (show _ = some (.slice A0_5 l0_5.length c0_5) from rfl)
         cases a with
         | false =>
          rw [if_neg Bool.false_ne_true] at hN
          obtain rfl := Option.some.inj hN
          have h := H.out
          rw [if_neg Bool.false_ne_true] at h
          obtain rfl := Option.some.inj h
          clear h hN
          go_wp2_with (first | (go_at_call 87; (with_reducible refine (impl_NameOK.calls k y _ _ HY.out).mono ?_); rintro e wi ⟨rfl, hd⟩; have hb := hd.below; clear hd; clear hn0 hn1 hn2 hn3 hn4 hn5; have m0_ := Aside0.mk (HB.out.trans (hb.mono HB.out.size)); have m1_ := Aside0.mk (And.intro (blk_below BN.out.1 hb) BN.out.2); clear HB BN; have HB := m0_; have BN := m1_; clear m0_ m1_; clear hb; have hn0 := (blk_cell BN.out.1 0).trans (show _ = some (.slice (some ad) l0_0.length c0_0) from rfl); have hn1 := (blk_cell BN.out.1 1).trans (show _ = some (.slice A0_1 l0_1.length c0_1) from rfl); have hn2 := (blk_cell BN.out.1 2).trans (show _ = some (.slice A0_2 l0_2.length c0_2) from rfl); have hn3 := (blk_cell BN.out.1 3).trans (show _ = some (.slice A0_3 l0_3.length c0_3) from rfl); have hn4 := (blk_cell BN.out.1 4).trans (show _ = some (.slice A0_4 l0_4.length c0_4) from rfl); have hn5 := (blk_cell BN.out.1 5).trans (show _ = some (.slice A0_5 l0_5.length c0_5) from rfl)))
          go_ret
          exact ⟨rfl, HB.out⟩
         | true =>
          rw [if_pos rfl] at hN
          replace hN := Option.bind_eq_some_iff.1 hN
          obtain ⟨u, hu, hN⟩ := hN
          have HCT : Aside0 (∀ V : World, Below w.heap.size w V → Calls Try.prog 88 #[.slice (some ad) kk c0_0, .string y] V fun e w' => e = .returned (.bool u) ∧ Drawn0 V w') := ⟨fun V hV => by
           have q := slices_Contains_string_string.calls k (some ad) c0_0 (l0_0.take kk) y _ V (Kd.C_below HKS.out hV) HTK.out hu
           rw [List.length_take, Nat.min_eq_left hkk] at q
           exact q⟩
          clear hu
          cases u with
          | true =>
           rw [if_pos rfl] at hN
           obtain rfl := Option.some.inj hN
           have h := H.out
           rw [if_neg Bool.false_ne_true] at h
           obtain rfl := Option.some.inj h
           clear h hN
           go_wp2_with (first | (go_at_call 87; (with_reducible refine (impl_NameOK.calls k y _ _ HY.out).mono ?_); rintro e wi ⟨rfl, hd⟩; have hb := hd.below; clear hd; clear hn0 hn1 hn2 hn3 hn4 hn5; have m0_ := Aside0.mk (HB.out.trans (hb.mono HB.out.size)); have m1_ := Aside0.mk (And.intro (blk_below BN.out.1 hb) BN.out.2); clear HB BN; have HB := m0_; have BN := m1_; clear m0_ m1_; clear hb; have hn0 := (blk_cell BN.out.1 0).trans (show _ = some (.slice (some ad) l0_0.length c0_0) from rfl); have hn1 := (blk_cell BN.out.1 1).trans (show _ = some (.slice A0_1 l0_1.length c0_1) from rfl); have hn2 := (blk_cell BN.out.1 2).trans (show _ = some (.slice A0_2 l0_2.length c0_2) from rfl); have hn3 := (blk_cell BN.out.1 3).trans (show _ = some (.slice A0_3 l0_3.length c0_3) from rfl); have hn4 := (blk_cell BN.out.1 4).trans (show _ = some (.slice A0_4 l0_4.length c0_4) from rfl); have hn5 := (blk_cell BN.out.1 5).trans (show _ = some (.slice A0_5 l0_5.length c0_5) from rfl)) | (go_at_call 88; (with_reducible refine (HCT.out _ HB.out).mono ?_); rintro e wi ⟨rfl, hd⟩; have hb := hd.below; clear hd; clear hn0 hn1 hn2 hn3 hn4 hn5; have m0_ := Aside0.mk (HB.out.trans (hb.mono HB.out.size)); have m1_ := Aside0.mk (And.intro (blk_below BN.out.1 hb) BN.out.2); clear HB BN; have HB := m0_; have BN := m1_; clear m0_ m1_; clear hb; have hn0 := (blk_cell BN.out.1 0).trans (show _ = some (.slice (some ad) l0_0.length c0_0) from rfl); have hn1 := (blk_cell BN.out.1 1).trans (show _ = some (.slice A0_1 l0_1.length c0_1) from rfl); have hn2 := (blk_cell BN.out.1 2).trans (show _ = some (.slice A0_2 l0_2.length c0_2) from rfl); have hn3 := (blk_cell BN.out.1 3).trans (show _ = some (.slice A0_3 l0_3.length c0_3) from rfl); have hn4 := (blk_cell BN.out.1 4).trans (show _ = some (.slice A0_4 l0_4.length c0_4) from rfl); have hn5 := (blk_cell BN.out.1 5).trans (show _ = some (.slice A0_5 l0_5.length c0_5) from rfl)))
           go_ret
           exact ⟨rfl, HB.out⟩
          | false =>
           rw [if_neg Bool.false_ne_true] at hN
           have HNM := Aside0.mk hN
           clear hN
           go_wp2_with (first | (go_at_call 87; (with_reducible refine (impl_NameOK.calls k y _ _ HY.out).mono ?_); rintro e wi ⟨rfl, hd⟩; have hb := hd.below; clear hd; clear hn0 hn1 hn2 hn3 hn4 hn5; have m0_ := Aside0.mk (HB.out.trans (hb.mono HB.out.size)); have m1_ := Aside0.mk (And.intro (blk_below BN.out.1 hb) BN.out.2); clear HB BN; have HB := m0_; have BN := m1_; clear m0_ m1_; clear hb; have hn0 := (blk_cell BN.out.1 0).trans (show _ = some (.slice (some ad) l0_0.length c0_0) from rfl); have hn1 := (blk_cell BN.out.1 1).trans (show _ = some (.slice A0_1 l0_1.length c0_1) from rfl); have hn2 := (blk_cell BN.out.1 2).trans (show _ = some (.slice A0_2 l0_2.length c0_2) from rfl); have hn3 := (blk_cell BN.out.1 3).trans (show _ = some (.slice A0_3 l0_3.length c0_3) from rfl); have hn4 := (blk_cell BN.out.1 4).trans (show _ = some (.slice A0_4 l0_4.length c0_4) from rfl); have hn5 := (blk_cell BN.out.1 5).trans (show _ = some (.slice A0_5 l0_5.length c0_5) from rfl)) | (go_at_call 88; (with_reducible refine (HCT.out _ HB.out).mono ?_); rintro e wi ⟨rfl, hd⟩; have hb := hd.below; clear hd; clear hn0 hn1 hn2 hn3 hn4 hn5; have m0_ := Aside0.mk (HB.out.trans (hb.mono HB.out.size)); have m1_ := Aside0.mk (And.intro (blk_below BN.out.1 hb) BN.out.2); clear HB BN; have HB := m0_; have BN := m1_; clear m0_ m1_; clear hb; have hn0 := (blk_cell BN.out.1 0).trans (show _ = some (.slice (some ad) l0_0.length c0_0) from rfl); have hn1 := (blk_cell BN.out.1 1).trans (show _ = some (.slice A0_1 l0_1.length c0_1) from rfl); have hn2 := (blk_cell BN.out.1 2).trans (show _ = some (.slice A0_2 l0_2.length c0_2) from rfl); have hn3 := (blk_cell BN.out.1 3).trans (show _ = some (.slice A0_3 l0_3.length c0_3) from rfl); have hn4 := (blk_cell BN.out.1 4).trans (show _ = some (.slice A0_4 l0_4.length c0_4) from rfl); have hn5 := (blk_cell BN.out.1 5).trans (show _ = some (.slice A0_5 l0_5.length c0_5) from rfl)))
           go_roundg (l0_0.length - (kk + 1))
           case measure => omega
           case rel => exact ⟨kk + 1, by omega, by omega, by go_num, HB, BN, HNM⟩
        ·have hltz : ¬ (kk : Int) < (l0_0.length : Int) := by omega
         obtain rfl : kk = l0_0.length := by omega
         rw [List.drop_length, namesO] at hN
         obtain rfl := Option.some.inj hN
         have h := H.out
         rw [if_pos rfl] at h
         clear H hN
         obtain ⟨L, hL⟩ : ∃ L, linksB l0_0.length l0_1 l0_1 0 = L := ⟨_, rfl⟩
         rw [hL] at h
         have H := Aside0.mk h
         have HL : Aside0 (linksB l0_0.length l0_1 (l0_1.drop 0) 0 = L) := ⟨by rw [List.drop_zero]; exact hL⟩
         clear h hL
         have hn0 := (blk_cell BN.out.1 0).trans (show _ = some (.slice A0_0 l0_0.length c0_0) from rfl)
         have hn1 := (blk_cell BN.out.1 1).trans (show _ = some (.slice A0_1 l0_1.length c0_1) from rfl)
         have hn2 := (blk_cell BN.out.1 2).trans (show _ = some (.slice A0_2 l0_2.length c0_2) from rfl)
         have hn3 := (blk_cell BN.out.1 3).trans (show _ = some (.slice A0_3 l0_3.length c0_3) from rfl)
         have hn4 := (blk_cell BN.out.1 4).trans (show _ = some (.slice A0_4 l0_4.length c0_4) from rfl)
         have hn5 := (blk_cell BN.out.1 5).trans (show _ = some (.slice A0_5 l0_5.length c0_5) from rfl)
         go_wp2
         clear hn0 hn1 hn2 hn3 hn4 hn5
         go_loopg [53] l0_1.length (fun gg s53 wr => ∃ kk : Nat, kk ≤ l0_1.length ∧ l0_1.length - kk ≤ gg ∧ s53 = .int .i64 kk ∧ Aside0 (Below w.heap.size w wr) ∧ Aside0 (wr.heap[gn]? = some (.cells #[.slice A0_0 l0_0.length c0_0, .slice A0_1 l0_1.length c0_1, .slice A0_2 l0_2.length c0_2, .slice A0_3 l0_3.length c0_3, .slice A0_4 l0_4.length c0_4, .slice A0_5 l0_5.length c0_5] 38 (0, 0)) ∧ w.heap.size ≤ gn) ∧ Aside0 (linksB l0_0.length l0_1 (l0_1.drop kk) kk = L))
         case atStart => exact ⟨0, Nat.zero_le _, by omega, rfl, HB, BN, HL⟩
         case round =>
          clear HL HB BN
          obtain ⟨kk, hkk, hg, rfl, HB, BN, HL⟩ := hrel
          have HM1 := HM.out.2
          have hN := HL.out
          clear HL
          by_cases hlt : kk < l0_1.length
          ·have hltz : (kk : Int) < (l0_1.length : Int) := by omega
           have ew : IntKind.i64.wrap ((kk : Int) + 1) = ((kk + 1 : Nat) : Int) := IntWalk.i64_in _ (by omega)
           obtain ⟨ad, ea, hx0, hx1, hx2⟩ := at_T92 HN.out.2.2.1 (kk : Int) (by omega) (by omega)
           cases ea
           rw [Int.toNat_natCast] at hx0 hx1 hx2
           replace hx0 := (HB.out.cell (World.block_lt_of_cell? w _ hx0)).trans hx0
           replace hx1 := (HB.out.cell (World.block_lt_of_cell? w _ hx1)).trans hx1
           replace hx2 := (HB.out.cell (World.block_lt_of_cell? w _ hx2)).trans hx2
           have hrd : rd_T92 l0_1 (kk : Int) = l0_1[kk] := by unfold rd_T92; simp [List.getD, hlt]
           rw [hrd] at hx0 hx1 hx2
           rw [List.drop_eq_getElem_cons hlt, linksB] at hN
           clear hrd
           generalize l0_1[kk] = x at hN hx0 hx1 hx2
           obtain ⟨x0, x1, x2⟩ := x
           unfold linkB at hN
           dsimp only at hN hx0 hx1 hx2
           have HLK : Aside0 (∀ V : World, Below w.heap.size w V → Calls Try.prog 89 #[.agg #[.slice A0_0 l0_0.length c0_0, .slice (some ad) l0_1.length c0_1, .slice A0_2 l0_2.length c0_2, .slice A0_3 l0_3.length c0_3, .slice A0_4 l0_4.length c0_4, .slice A0_5 l0_5.length c0_5], .int .i64 x0, .int .i64 x1] V fun e W' => e = .returned (.int .i64 (linkI l0_1 x0 x1)) ∧ Below V.heap.size V W') := ⟨fun V hV => impl_linkOf.calls A0_0 c0_0 l0_0 (some ad) c0_1 l0_1 A0_2 c0_2 l0_2 A0_3 c0_3 l0_3 A0_4 c0_4 l0_4 A0_5 c0_5 l0_5 x0 x1 _ V (Kd.C_below HN.out.1 hV) HN.out.2.1 (Kd.C_below HN.out.2.2.1 hV) HN.out.2.2.2.1 (Kd.C_below HN.out.2.2.2.2.1 hV) HN.out.2.2.2.2.2.1 (Kd.C_below HN.out.2.2.2.2.2.2.1 hV) HN.out.2.2.2.2.2.2.2.1 (Kd.C_below HN.out.2.2.2.2.2.2.2.2.1 hV) HN.out.2.2.2.2.2.2.2.2.2.1 (Kd.C_below HN.out.2.2.2.2.2.2.2.2.2.2.1 hV) HN.out.2.2.2.2.2.2.2.2.2.2.2 rfl⟩
           have HRA : Aside0 (∀ V : World, Below w.heap.size w V → Calls Try.prog 64 #[.agg #[.slice A0_0 l0_0.length c0_0, .slice (some ad) l0_1.length c0_1, .slice A0_2 l0_2.length c0_2, .slice A0_3 l0_3.length c0_3, .slice A0_4 l0_4.length c0_4, .slice A0_5 l0_5.length c0_5], .int .i64 x0] V fun e W' => e = .returned (.bool (routerB l0_0.length x0)) ∧ Below V.heap.size V W') := ⟨fun V hV => impl_isRouter.calls A0_0 c0_0 l0_0 (some ad) c0_1 l0_1 A0_2 c0_2 l0_2 A0_3 c0_3 l0_3 A0_4 c0_4 l0_4 A0_5 c0_5 l0_5 x0 _ V (Kd.C_below HN.out.1 hV) HN.out.2.1 (Kd.C_below HN.out.2.2.1 hV) HN.out.2.2.2.1 (Kd.C_below HN.out.2.2.2.2.1 hV) HN.out.2.2.2.2.2.1 (Kd.C_below HN.out.2.2.2.2.2.2.1 hV) HN.out.2.2.2.2.2.2.2.1 (Kd.C_below HN.out.2.2.2.2.2.2.2.2.1 hV) HN.out.2.2.2.2.2.2.2.2.2.1 (Kd.C_below HN.out.2.2.2.2.2.2.2.2.2.2.1 hV) HN.out.2.2.2.2.2.2.2.2.2.2.2 (router_is l0_0 l0_1 l0_2 l0_3 l0_4 l0_5 x0 HM.out.1)⟩
           have HRB : Aside0 (∀ V : World, Below w.heap.size w V → Calls Try.prog 64 #[.agg #[.slice A0_0 l0_0.length c0_0, .slice (some ad) l0_1.length c0_1, .slice A0_2 l0_2.length c0_2, .slice A0_3 l0_3.length c0_3, .slice A0_4 l0_4.length c0_4, .slice A0_5 l0_5.length c0_5], .int .i64 x1] V fun e W' => e = .returned (.bool (routerB l0_0.length x1)) ∧ Below V.heap.size V W') := ⟨fun V hV => impl_isRouter.calls A0_0 c0_0 l0_0 (some ad) c0_1 l0_1 A0_2 c0_2 l0_2 A0_3 c0_3 l0_3 A0_4 c0_4 l0_4 A0_5 c0_5 l0_5 x1 _ V (Kd.C_below HN.out.1 hV) HN.out.2.1 (Kd.C_below HN.out.2.2.1 hV) HN.out.2.2.2.1 (Kd.C_below HN.out.2.2.2.2.1 hV) HN.out.2.2.2.2.2.1 (Kd.C_below HN.out.2.2.2.2.2.2.1 hV) HN.out.2.2.2.2.2.2.2.1 (Kd.C_below HN.out.2.2.2.2.2.2.2.2.1 hV) HN.out.2.2.2.2.2.2.2.2.2.1 (Kd.C_below HN.out.2.2.2.2.2.2.2.2.2.2.1 hV) HN.out.2.2.2.2.2.2.2.2.2.2.2 (router_is l0_0 l0_1 l0_2 l0_3 l0_4 l0_5 x1 HM.out.1)⟩
           have HWI : Aside0 (∀ V : World, Calls Try.prog 80 #[.int .i64 x2, .int .i64 1, .int .i64 100] V fun e W' => e = .returned (.bool (inB x2 1 100)) ∧ Drawn0 V W') := ⟨fun V => impl_within.calls x2 1 100 _ V (within_is x2 1 100)⟩
           generalize linkI l0_1 x0 x1 = lk at hN HLK
           generalize routerB l0_0.length x0 = ra at hN HRA
           generalize routerB l0_0.length x1 = rb at hN HRB
           generalize inB x2 1 100 = ci at hN HWI
           have hn0 := (blk_cell BN.out.1 0).trans (show _ = some (.slice A0_0 l0_0.length c0_0) from rfl)
           have hn1 := (blk_cell BN.out.1 1).trans (show _ = some (.slice (some ad) l0_1.length c0_1) from rfl)
           have hn2 := (blk_cell BN.out.1 2).trans (show _ = some (.slice A0_2 l0_2.length c0_2) from rfl)
           have hn3 := (blk_cell BN.out.1 3).trans (show _ = some (.slice A0_3 l0_3.length c0_3) from rfl)
           have hn4 := (blk_cell BN.out.1 4).trans (show _ = some (.slice A0_4 l0_4.length c0_4) from rfl)
           have hn5 := (blk_cell BN.out.1 5).trans (show _ = some (.slice A0_5 l0_5.length c0_5) from rfl)
           cases ra with
           | false =>
            simp only [Bool.true_and, Bool.false_and, Bool.and_false, Bool.not_true, Bool.not_false] at hN
            subst hN
            have h := H.out
            rw [if_neg Bool.false_ne_true] at h
            obtain rfl := Option.some.inj h
            clear h
            go_wp2_with (first | ((with_reducible refine gate_dst (N := 6) rfl ?_); refine box_event ?hg (N := 6) ?hd (cs := #[.int .i64 0, .int .i64 0, .int .i64 0]) (t := 92) ?hr ?_; (case hd => rfl); (case hg => rfl); (case hr => first | (go_simp; done) | (go_simp; rfl)); intro g6 hg6 w6 hbox hbb; have HX := Aside0.mk (And.intro hbox (And.intro (show w.heap.size ≤ g6 by rw [hg6]; exact HB.out.size) (show gn ≠ g6 by rw [hg6]; exact Nat.ne_of_lt (blk_lt BN.out.1)))); clear hn0 hn1 hn2 hn3 hn4 hn5; clear hx0 hx1 hx2; have m0_ := Aside0.mk (HB.out.trans (hbb.mono HB.out.size)); have m1_ := Aside0.mk (And.intro (blk_below BN.out.1 hbb) BN.out.2); clear HB BN; have HB := m0_; have BN := m1_; clear m0_ m1_; clear hbb hbox hg6) | ((with_reducible refine gate_store (t := 92) (p := 6) rfl ?_); have hc0 := (blk_cell HX.out.1 0).trans (show _ = some (.int .i64 0) from rfl); have hc1 := (blk_cell HX.out.1 1).trans (show _ = some (.int .i64 0) from rfl); have hc2 := (blk_cell HX.out.1 2).trans (show _ = some (.int .i64 0) from rfl); have hf0 := blk_frozen HX.out.1 0; have hf1 := blk_frozen HX.out.1 1; have hf2 := blk_frozen HX.out.1 2; refine store_event (t := 92) (p := 6) (v := ?vo) (w1 := ((w6.setCell ⟨g6, 0, none⟩ (.int .i64 x0)).setCell ⟨g6, 1, none⟩ (.int .i64 x1)).setCell ⟨g6, 2, none⟩ (.int .i64 x2)) ?hg ?ho ?hn ?hr ?_; (case ho => rfl); (case hg => rfl); (case hn => rfl); (case hr => first | (go_simp; done) | (go_simp; rfl)); clear hc0 hc1 hc2 hf0 hf1 hf2; intro w7 hw_; obtain ⟨hbk, hkb, hkw⟩ := box_put92 (a := .int .i64 x0) (b := .int .i64 x1) (v := .int .i64 x2) HX.out.1; rw [← hw_] at hbk hkb hkw; clear hw_; have m0_ := Aside0.mk (hkw _ HB.out HX.out.2.1); have m1_ := Aside0.mk (And.intro (blk_kept BN.out.1 hkb (fun h_ => HX.out.2.2 h_)) BN.out.2); have m2_ := Aside0.mk (And.intro hbk HX.out.2); clear HB BN HX; have HB := m0_; have BN := m1_; have HX := m2_; clear m0_ m1_ m2_; clear hbk hkb hkw; have hn0 := (blk_cell BN.out.1 0).trans (show _ = some (.slice A0_0 l0_0.length c0_0) from rfl); have hn1 := (blk_cell BN.out.1 1).trans (show _ = some (.slice (some ad) l0_1.length c0_1) from rfl); have hn2 := (blk_cell BN.out.1 2).trans (show _ = some (.slice A0_2 l0_2.length c0_2) from rfl); have hn3 := (blk_cell BN.out.1 3).trans (show _ = some (.slice A0_3 l0_3.length c0_3) from rfl); have hn4 := (blk_cell BN.out.1 4).trans (show _ = some (.slice A0_4 l0_4.length c0_4) from rfl); have hn5 := (blk_cell BN.out.1 5).trans (show _ = some (.slice A0_5 l0_5.length c0_5) from rfl); have hx0 := (blk_cell HX.out.1 0).trans (show _ = some (.int .i64 x0) from rfl); have hx1 := (blk_cell HX.out.1 1).trans (show _ = some (.int .i64 x1) from rfl); have hx2 := (blk_cell HX.out.1 2).trans (show _ = some (.int .i64 x2) from rfl)) | (go_at_call 64; (with_reducible refine (HRA.out _ HB.out).mono ?_); rintro e wi ⟨rfl, hb⟩; clear hn0 hn1 hn2 hn3 hn4 hn5; clear hx0 hx1 hx2; have m0_ := Aside0.mk (HB.out.trans (hb.mono HB.out.size)); have m1_ := Aside0.mk (And.intro (blk_below BN.out.1 hb) BN.out.2); have m2_ := Aside0.mk (And.intro (blk_below HX.out.1 hb) HX.out.2); clear HB BN HX; have HB := m0_; have BN := m1_; have HX := m2_; clear m0_ m1_ m2_; clear hb; have hn0 := (blk_cell BN.out.1 0).trans (show _ = some (.slice A0_0 l0_0.length c0_0) from rfl); have hn1 := (blk_cell BN.out.1 1).trans (show _ = some (.slice (some ad) l0_1.length c0_1) from rfl); have hn2 := (blk_cell BN.out.1 2).trans (show _ = some (.slice A0_2 l0_2.length c0_2) from rfl); have hn3 := (blk_cell BN.out.1 3).trans (show _ = some (.slice A0_3 l0_3.length c0_3) from rfl); have hn4 := (blk_cell BN.out.1 4).trans (show _ = some (.slice A0_4 l0_4.length c0_4) from rfl); have hn5 := (blk_cell BN.out.1 5).trans (show _ = some (.slice A0_5 l0_5.length c0_5) from rfl); have hx0 := (blk_cell HX.out.1 0).trans (show _ = some (.int .i64 x0) from rfl); have hx1 := (blk_cell HX.out.1 1).trans (show _ = some (.int .i64 x1) from rfl); have hx2 := (blk_cell HX.out.1 2).trans (show _ = some (.int .i64 x2) from rfl)) | (go_at_call 64; (with_reducible refine (HRB.out _ HB.out).mono ?_); rintro e wi ⟨rfl, hb⟩; clear hn0 hn1 hn2 hn3 hn4 hn5; clear hx0 hx1 hx2; have m0_ := Aside0.mk (HB.out.trans (hb.mono HB.out.size)); have m1_ := Aside0.mk (And.intro (blk_below BN.out.1 hb) BN.out.2); have m2_ := Aside0.mk (And.intro (blk_below HX.out.1 hb) HX.out.2); clear HB BN HX; have HB := m0_; have BN := m1_; have HX := m2_; clear m0_ m1_ m2_; clear hb; have hn0 := (blk_cell BN.out.1 0).trans (show _ = some (.slice A0_0 l0_0.length c0_0) from rfl); have hn1 := (blk_cell BN.out.1 1).trans (show _ = some (.slice (some ad) l0_1.length c0_1) from rfl); have hn2 := (blk_cell BN.out.1 2).trans (show _ = some (.slice A0_2 l0_2.length c0_2) from rfl); have hn3 := (blk_cell BN.out.1 3).trans (show _ = some (.slice A0_3 l0_3.length c0_3) from rfl); have hn4 := (blk_cell BN.out.1 4).trans (show _ = some (.slice A0_4 l0_4.length c0_4) from rfl); have hn5 := (blk_cell BN.out.1 5).trans (show _ = some (.slice A0_5 l0_5.length c0_5) from rfl); have hx0 := (blk_cell HX.out.1 0).trans (show _ = some (.int .i64 x0) from rfl); have hx1 := (blk_cell HX.out.1 1).trans (show _ = some (.int .i64 x1) from rfl); have hx2 := (blk_cell HX.out.1 2).trans (show _ = some (.int .i64 x2) from rfl)) | (go_at_call 89; (with_reducible refine (HLK.out _ HB.out).mono ?_); rintro e wi ⟨rfl, hb⟩; clear hn0 hn1 hn2 hn3 hn4 hn5; clear hx0 hx1 hx2; have m0_ := Aside0.mk (HB.out.trans (hb.mono HB.out.size)); have m1_ := Aside0.mk (And.intro (blk_below BN.out.1 hb) BN.out.2); have m2_ := Aside0.mk (And.intro (blk_below HX.out.1 hb) HX.out.2); clear HB BN HX; have HB := m0_; have BN := m1_; have HX := m2_; clear m0_ m1_ m2_; clear hb; have hn0 := (blk_cell BN.out.1 0).trans (show _ = some (.slice A0_0 l0_0.length c0_0) from rfl); have hn1 := (blk_cell BN.out.1 1).trans (show _ = some (.slice (some ad) l0_1.length c0_1) from rfl); have hn2 := (blk_cell BN.out.1 2).trans (show _ = some (.slice A0_2 l0_2.length c0_2) from rfl); have hn3 := (blk_cell BN.out.1 3).trans (show _ = some (.slice A0_3 l0_3.length c0_3) from rfl); have hn4 := (blk_cell BN.out.1 4).trans (show _ = some (.slice A0_4 l0_4.length c0_4) from rfl); have hn5 := (blk_cell BN.out.1 5).trans (show _ = some (.slice A0_5 l0_5.length c0_5) from rfl); have hx0 := (blk_cell HX.out.1 0).trans (show _ = some (.int .i64 x0) from rfl); have hx1 := (blk_cell HX.out.1 1).trans (show _ = some (.int .i64 x1) from rfl); have hx2 := (blk_cell HX.out.1 2).trans (show _ = some (.int .i64 x2) from rfl)) | (go_at_call 80; (with_reducible refine (HWI.out _).mono ?_); rintro e wi ⟨rfl, hd⟩; have hb := hd.below; clear hd; clear hn0 hn1 hn2 hn3 hn4 hn5; clear hx0 hx1 hx2; have m0_ := Aside0.mk (HB.out.trans (hb.mono HB.out.size)); have m1_ := Aside0.mk (And.intro (blk_below BN.out.1 hb) BN.out.2); have m2_ := Aside0.mk (And.intro (blk_below HX.out.1 hb) HX.out.2); clear HB BN HX; have HB := m0_; have BN := m1_; have HX := m2_; clear m0_ m1_ m2_; clear hb; have hn0 := (blk_cell BN.out.1 0).trans (show _ = some (.slice A0_0 l0_0.length c0_0) from rfl); have hn1 := (blk_cell BN.out.1 1).trans (show _ = some (.slice (some ad) l0_1.length c0_1) from rfl); have hn2 := (blk_cell BN.out.1 2).trans (show _ = some (.slice A0_2 l0_2.length c0_2) from rfl); have hn3 := (blk_cell BN.out.1 3).trans (show _ = some (.slice A0_3 l0_3.length c0_3) from rfl); have hn4 := (blk_cell BN.out.1 4).trans (show _ = some (.slice A0_4 l0_4.length c0_4) from rfl); have hn5 := (blk_cell BN.out.1 5).trans (show _ = some (.slice A0_5 l0_5.length c0_5) from rfl); have hx0 := (blk_cell HX.out.1 0).trans (show _ = some (.int .i64 x0) from rfl); have hx1 := (blk_cell HX.out.1 1).trans (show _ = some (.int .i64 x1) from rfl); have hx2 := (blk_cell HX.out.1 2).trans (show _ = some (.int .i64 x2) from rfl)))
            go_ret
            exact ⟨rfl, HB.out⟩
           | true =>
            cases rb with
            | false =>
             simp only [Bool.true_and, Bool.false_and, Bool.and_false, Bool.not_true, Bool.not_false] at hN
             subst hN
             have h := H.out
             rw [if_neg Bool.false_ne_true] at h
             obtain rfl := Option.some.inj h
             clear h
             go_wp2_with (first | ((with_reducible refine gate_dst (N := 6) rfl ?_); refine box_event ?hg (N := 6) ?hd (cs := #[.int .i64 0, .int .i64 0, .int .i64 0]) (t := 92) ?hr ?_; (case hd => rfl); (case hg => rfl); (case hr => first | (go_simp; done) | (go_simp; rfl)); intro g6 hg6 w6 hbox hbb; have HX := Aside0.mk (And.intro hbox (And.intro (show w.heap.size ≤ g6 by rw [hg6]; exact HB.out.size) (show gn ≠ g6 by rw [hg6]; exact Nat.ne_of_lt (blk_lt BN.out.1)))); clear hn0 hn1 hn2 hn3 hn4 hn5; clear hx0 hx1 hx2; have m0_ := Aside0.mk (HB.out.trans (hbb.mono HB.out.size)); have m1_ := Aside0.mk (And.intro (blk_below BN.out.1 hbb) BN.out.2); clear HB BN; have HB := m0_; have BN := m1_; clear m0_ m1_; clear hbb hbox hg6) | ((with_reducible refine gate_store (t := 92) (p := 6) rfl ?_); have hc0 := (blk_cell HX.out.1 0).trans (show _ = some (.int .i64 0) from rfl); have hc1 := (blk_cell HX.out.1 1).trans (show _ = some (.int .i64 0) from rfl); have hc2 := (blk_cell HX.out.1 2).trans (show _ = some (.int .i64 0) from rfl); have hf0 := blk_frozen HX.out.1 0; have hf1 := blk_frozen HX.out.1 1; have hf2 := blk_frozen HX.out.1 2; refine store_event (t := 92) (p := 6) (v := ?vo) (w1 := ((w6.setCell ⟨g6, 0, none⟩ (.int .i64 x0)).setCell ⟨g6, 1, none⟩ (.int .i64 x1)).setCell ⟨g6, 2, none⟩ (.int .i64 x2)) ?hg ?ho ?hn ?hr ?_; (case ho => rfl); (case hg => rfl); (case hn => rfl); (case hr => first | (go_simp; done) | (go_simp; rfl)); clear hc0 hc1 hc2 hf0 hf1 hf2; intro w7 hw_; obtain ⟨hbk, hkb, hkw⟩ := box_put92 (a := .int .i64 x0) (b := .int .i64 x1) (v := .int .i64 x2) HX.out.1; rw [← hw_] at hbk hkb hkw; clear hw_; have m0_ := Aside0.mk (hkw _ HB.out HX.out.2.1); have m1_ := Aside0.mk (And.intro (blk_kept BN.out.1 hkb (fun h_ => HX.out.2.2 h_)) BN.out.2); have m2_ := Aside0.mk (And.intro hbk HX.out.2); clear HB BN HX; have HB := m0_; have BN := m1_; have HX := m2_; clear m0_ m1_ m2_; clear hbk hkb hkw; have hn0 := (blk_cell BN.out.1 0).trans (show _ = some (.slice A0_0 l0_0.length c0_0) from rfl); have hn1 := (blk_cell BN.out.1 1).trans (show _ = some (.slice (some ad) l0_1.length c0_1) from rfl); have hn2 := (blk_cell BN.out.1 2).trans (show _ = some (.slice A0_2 l0_2.length c0_2) from rfl); have hn3 := (blk_cell BN.out.1 3).trans (show _ = some (.slice A0_3 l0_3.length c0_3) from rfl); have hn4 := (blk_cell BN.out.1 4).trans (show _ = some (.slice A0_4 l0_4.length c0_4) from rfl); have hn5 := (blk_cell BN.out.1 5).trans (show _ = some (.slice A0_5 l0_5.length c0_5) from rfl); have hx0 := (blk_cell HX.out.1 0).trans (show _ = some (.int .i64 x0) from rfl); have hx1 := (blk_cell HX.out.1 1).trans (show _ = some (.int .i64 x1) from rfl); have hx2 := (blk_cell HX.out.1 2).trans (show _ = some (.int .i64 x2) from rfl)) | (go_at_call 64; (with_reducible refine (HRA.out _ HB.out).mono ?_); rintro e wi ⟨rfl, hb⟩; clear hn0 hn1 hn2 hn3 hn4 hn5; clear hx0 hx1 hx2; have m0_ := Aside0.mk (HB.out.trans (hb.mono HB.out.size)); have m1_ := Aside0.mk (And.intro (blk_below BN.out.1 hb) BN.out.2); have m2_ := Aside0.mk (And.intro (blk_below HX.out.1 hb) HX.out.2); clear HB BN HX; have HB := m0_; have BN := m1_; have HX := m2_; clear m0_ m1_ m2_; clear hb; have hn0 := (blk_cell BN.out.1 0).trans (show _ = some (.slice A0_0 l0_0.length c0_0) from rfl); have hn1 := (blk_cell BN.out.1 1).trans (show _ = some (.slice (some ad) l0_1.length c0_1) from rfl); have hn2 := (blk_cell BN.out.1 2).trans (show _ = some (.slice A0_2 l0_2.length c0_2) from rfl); have hn3 := (blk_cell BN.out.1 3).trans (show _ = some (.slice A0_3 l0_3.length c0_3) from rfl); have hn4 := (blk_cell BN.out.1 4).trans (show _ = some (.slice A0_4 l0_4.length c0_4) from rfl); have hn5 := (blk_cell BN.out.1 5).trans (show _ = some (.slice A0_5 l0_5.length c0_5) from rfl); have hx0 := (blk_cell HX.out.1 0).trans (show _ = some (.int .i64 x0) from rfl); have hx1 := (blk_cell HX.out.1 1).trans (show _ = some (.int .i64 x1) from rfl); have hx2 := (blk_cell HX.out.1 2).trans (show _ = some (.int .i64 x2) from rfl)) | (go_at_call 64; (with_reducible refine (HRB.out _ HB.out).mono ?_); rintro e wi ⟨rfl, hb⟩; clear hn0 hn1 hn2 hn3 hn4 hn5; clear hx0 hx1 hx2; have m0_ := Aside0.mk (HB.out.trans (hb.mono HB.out.size)); have m1_ := Aside0.mk (And.intro (blk_below BN.out.1 hb) BN.out.2); have m2_ := Aside0.mk (And.intro (blk_below HX.out.1 hb) HX.out.2); clear HB BN HX; have HB := m0_; have BN := m1_; have HX := m2_; clear m0_ m1_ m2_; clear hb; have hn0 := (blk_cell BN.out.1 0).trans (show _ = some (.slice A0_0 l0_0.length c0_0) from rfl); have hn1 := (blk_cell BN.out.1 1).trans (show _ = some (.slice (some ad) l0_1.length c0_1) from rfl); have hn2 := (blk_cell BN.out.1 2).trans (show _ = some (.slice A0_2 l0_2.length c0_2) from rfl); have hn3 := (blk_cell BN.out.1 3).trans (show _ = some (.slice A0_3 l0_3.length c0_3) from rfl); have hn4 := (blk_cell BN.out.1 4).trans (show _ = some (.slice A0_4 l0_4.length c0_4) from rfl); have hn5 := (blk_cell BN.out.1 5).trans (show _ = some (.slice A0_5 l0_5.length c0_5) from rfl); have hx0 := (blk_cell HX.out.1 0).trans (show _ = some (.int .i64 x0) from rfl); have hx1 := (blk_cell HX.out.1 1).trans (show _ = some (.int .i64 x1) from rfl); have hx2 := (blk_cell HX.out.1 2).trans (show _ = some (.int .i64 x2) from rfl)) | (go_at_call 89; (with_reducible refine (HLK.out _ HB.out).mono ?_); rintro e wi ⟨rfl, hb⟩; clear hn0 hn1 hn2 hn3 hn4 hn5; clear hx0 hx1 hx2; have m0_ := Aside0.mk (HB.out.trans (hb.mono HB.out.size)); have m1_ := Aside0.mk (And.intro (blk_below BN.out.1 hb) BN.out.2); have m2_ := Aside0.mk (And.intro (blk_below HX.out.1 hb) HX.out.2); clear HB BN HX; have HB := m0_; have BN := m1_; have HX := m2_; clear m0_ m1_ m2_; clear hb; have hn0 := (blk_cell BN.out.1 0).trans (show _ = some (.slice A0_0 l0_0.length c0_0) from rfl); have hn1 := (blk_cell BN.out.1 1).trans (show _ = some (.slice (some ad) l0_1.length c0_1) from rfl); have hn2 := (blk_cell BN.out.1 2).trans (show _ = some (.slice A0_2 l0_2.length c0_2) from rfl); have hn3 := (blk_cell BN.out.1 3).trans (show _ = some (.slice A0_3 l0_3.length c0_3) from rfl); have hn4 := (blk_cell BN.out.1 4).trans (show _ = some (.slice A0_4 l0_4.length c0_4) from rfl); have hn5 := (blk_cell BN.out.1 5).trans (show _ = some (.slice A0_5 l0_5.length c0_5) from rfl); have hx0 := (blk_cell HX.out.1 0).trans (show _ = some (.int .i64 x0) from rfl); have hx1 := (blk_cell HX.out.1 1).trans (show _ = some (.int .i64 x1) from rfl); have hx2 := (blk_cell HX.out.1 2).trans (show _ = some (.int .i64 x2) from rfl)) | (go_at_call 80; (with_reducible refine (HWI.out _).mono ?_); rintro e wi ⟨rfl, hd⟩; have hb := hd.below; clear hd; clear hn0 hn1 hn2 hn3 hn4 hn5; clear hx0 hx1 hx2; have m0_ := Aside0.mk (HB.out.trans (hb.mono HB.out.size)); have m1_ := Aside0.mk (And.intro (blk_below BN.out.1 hb) BN.out.2); have m2_ := Aside0.mk (And.intro (blk_below HX.out.1 hb) HX.out.2); clear HB BN HX; have HB := m0_; have BN := m1_; have HX := m2_; clear m0_ m1_ m2_; clear hb; have hn0 := (blk_cell BN.out.1 0).trans (show _ = some (.slice A0_0 l0_0.length c0_0) from rfl); have hn1 := (blk_cell BN.out.1 1).trans (show _ = some (.slice (some ad) l0_1.length c0_1) from rfl); have hn2 := (blk_cell BN.out.1 2).trans (show _ = some (.slice A0_2 l0_2.length c0_2) from rfl); have hn3 := (blk_cell BN.out.1 3).trans (show _ = some (.slice A0_3 l0_3.length c0_3) from rfl); have hn4 := (blk_cell BN.out.1 4).trans (show _ = some (.slice A0_4 l0_4.length c0_4) from rfl); have hn5 := (blk_cell BN.out.1 5).trans (show _ = some (.slice A0_5 l0_5.length c0_5) from rfl); have hx0 := (blk_cell HX.out.1 0).trans (show _ = some (.int .i64 x0) from rfl); have hx1 := (blk_cell HX.out.1 1).trans (show _ = some (.int .i64 x1) from rfl); have hx2 := (blk_cell HX.out.1 2).trans (show _ = some (.int .i64 x2) from rfl)))
             go_ret
             exact ⟨rfl, HB.out⟩
            | true =>
             cases he : (x0 == x1) with
             | true =>
              rw [he] at hN
              simp only [Bool.true_and, Bool.false_and, Bool.and_false, Bool.not_true, Bool.not_false] at hN
              subst hN
              have h := H.out
              rw [if_neg Bool.false_ne_true] at h
              obtain rfl := Option.some.inj h
              clear h
              go_wp2_with (first | ((with_reducible refine gate_dst (N := 6) rfl ?_); refine box_event ?hg (N := 6) ?hd (cs := #[.int .i64 0, .int .i64 0, .int .i64 0]) (t := 92) ?hr ?_; (case hd => rfl); (case hg => rfl); (case hr => first | (go_simp; done) | (go_simp; rfl)); intro g6 hg6 w6 hbox hbb; have HX := Aside0.mk (And.intro hbox (And.intro (show w.heap.size ≤ g6 by rw [hg6]; exact HB.out.size) (show gn ≠ g6 by rw [hg6]; exact Nat.ne_of_lt (blk_lt BN.out.1)))); clear hn0 hn1 hn2 hn3 hn4 hn5; clear hx0 hx1 hx2; have m0_ := Aside0.mk (HB.out.trans (hbb.mono HB.out.size)); have m1_ := Aside0.mk (And.intro (blk_below BN.out.1 hbb) BN.out.2); clear HB BN; have HB := m0_; have BN := m1_; clear m0_ m1_; clear hbb hbox hg6) | ((with_reducible refine gate_store (t := 92) (p := 6) rfl ?_); have hc0 := (blk_cell HX.out.1 0).trans (show _ = some (.int .i64 0) from rfl); have hc1 := (blk_cell HX.out.1 1).trans (show _ = some (.int .i64 0) from rfl); have hc2 := (blk_cell HX.out.1 2).trans (show _ = some (.int .i64 0) from rfl); have hf0 := blk_frozen HX.out.1 0; have hf1 := blk_frozen HX.out.1 1; have hf2 := blk_frozen HX.out.1 2; refine store_event (t := 92) (p := 6) (v := ?vo) (w1 := ((w6.setCell ⟨g6, 0, none⟩ (.int .i64 x0)).setCell ⟨g6, 1, none⟩ (.int .i64 x1)).setCell ⟨g6, 2, none⟩ (.int .i64 x2)) ?hg ?ho ?hn ?hr ?_; (case ho => rfl); (case hg => rfl); (case hn => rfl); (case hr => first | (go_simp; done) | (go_simp; rfl)); clear hc0 hc1 hc2 hf0 hf1 hf2; intro w7 hw_; obtain ⟨hbk, hkb, hkw⟩ := box_put92 (a := .int .i64 x0) (b := .int .i64 x1) (v := .int .i64 x2) HX.out.1; rw [← hw_] at hbk hkb hkw; clear hw_; have m0_ := Aside0.mk (hkw _ HB.out HX.out.2.1); have m1_ := Aside0.mk (And.intro (blk_kept BN.out.1 hkb (fun h_ => HX.out.2.2 h_)) BN.out.2); have m2_ := Aside0.mk (And.intro hbk HX.out.2); clear HB BN HX; have HB := m0_; have BN := m1_; have HX := m2_; clear m0_ m1_ m2_; clear hbk hkb hkw; have hn0 := (blk_cell BN.out.1 0).trans (show _ = some (.slice A0_0 l0_0.length c0_0) from rfl); have hn1 := (blk_cell BN.out.1 1).trans (show _ = some (.slice (some ad) l0_1.length c0_1) from rfl); have hn2 := (blk_cell BN.out.1 2).trans (show _ = some (.slice A0_2 l0_2.length c0_2) from rfl); have hn3 := (blk_cell BN.out.1 3).trans (show _ = some (.slice A0_3 l0_3.length c0_3) from rfl); have hn4 := (blk_cell BN.out.1 4).trans (show _ = some (.slice A0_4 l0_4.length c0_4) from rfl); have hn5 := (blk_cell BN.out.1 5).trans (show _ = some (.slice A0_5 l0_5.length c0_5) from rfl); have hx0 := (blk_cell HX.out.1 0).trans (show _ = some (.int .i64 x0) from rfl); have hx1 := (blk_cell HX.out.1 1).trans (show _ = some (.int .i64 x1) from rfl); have hx2 := (blk_cell HX.out.1 2).trans (show _ = some (.int .i64 x2) from rfl)) | (go_at_call 64; (with_reducible refine (HRA.out _ HB.out).mono ?_); rintro e wi ⟨rfl, hb⟩; clear hn0 hn1 hn2 hn3 hn4 hn5; clear hx0 hx1 hx2; have m0_ := Aside0.mk (HB.out.trans (hb.mono HB.out.size)); have m1_ := Aside0.mk (And.intro (blk_below BN.out.1 hb) BN.out.2); have m2_ := Aside0.mk (And.intro (blk_below HX.out.1 hb) HX.out.2); clear HB BN HX; have HB := m0_; have BN := m1_; have HX := m2_; clear m0_ m1_ m2_; clear hb; have hn0 := (blk_cell BN.out.1 0).trans (show _ = some (.slice A0_0 l0_0.length c0_0) from rfl); have hn1 := (blk_cell BN.out.1 1).trans (show _ = some (.slice (some ad) l0_1.length c0_1) from rfl); have hn2 := (blk_cell BN.out.1 2).trans (show _ = some (.slice A0_2 l0_2.length c0_2) from rfl); have hn3 := (blk_cell BN.out.1 3).trans (show _ = some (.slice A0_3 l0_3.length c0_3) from rfl); have hn4 := (blk_cell BN.out.1 4).trans (show _ = some (.slice A0_4 l0_4.length c0_4) from rfl); have hn5 := (blk_cell BN.out.1 5).trans (show _ = some (.slice A0_5 l0_5.length c0_5) from rfl); have hx0 := (blk_cell HX.out.1 0).trans (show _ = some (.int .i64 x0) from rfl); have hx1 := (blk_cell HX.out.1 1).trans (show _ = some (.int .i64 x1) from rfl); have hx2 := (blk_cell HX.out.1 2).trans (show _ = some (.int .i64 x2) from rfl)) | (go_at_call 64; (with_reducible refine (HRB.out _ HB.out).mono ?_); rintro e wi ⟨rfl, hb⟩; clear hn0 hn1 hn2 hn3 hn4 hn5; clear hx0 hx1 hx2; have m0_ := Aside0.mk (HB.out.trans (hb.mono HB.out.size)); have m1_ := Aside0.mk (And.intro (blk_below BN.out.1 hb) BN.out.2); have m2_ := Aside0.mk (And.intro (blk_below HX.out.1 hb) HX.out.2); clear HB BN HX; have HB := m0_; have BN := m1_; have HX := m2_; clear m0_ m1_ m2_; clear hb; have hn0 := (blk_cell BN.out.1 0).trans (show _ = some (.slice A0_0 l0_0.length c0_0) from rfl); have hn1 := (blk_cell BN.out.1 1).trans (show _ = some (.slice (some ad) l0_1.length c0_1) from rfl); have hn2 := (blk_cell BN.out.1 2).trans (show _ = some (.slice A0_2 l0_2.length c0_2) from rfl); have hn3 := (blk_cell BN.out.1 3).trans (show _ = some (.slice A0_3 l0_3.length c0_3) from rfl); have hn4 := (blk_cell BN.out.1 4).trans (show _ = some (.slice A0_4 l0_4.length c0_4) from rfl); have hn5 := (blk_cell BN.out.1 5).trans (show _ = some (.slice A0_5 l0_5.length c0_5) from rfl); have hx0 := (blk_cell HX.out.1 0).trans (show _ = some (.int .i64 x0) from rfl); have hx1 := (blk_cell HX.out.1 1).trans (show _ = some (.int .i64 x1) from rfl); have hx2 := (blk_cell HX.out.1 2).trans (show _ = some (.int .i64 x2) from rfl)) | (go_at_call 89; (with_reducible refine (HLK.out _ HB.out).mono ?_); rintro e wi ⟨rfl, hb⟩; clear hn0 hn1 hn2 hn3 hn4 hn5; clear hx0 hx1 hx2; have m0_ := Aside0.mk (HB.out.trans (hb.mono HB.out.size)); have m1_ := Aside0.mk (And.intro (blk_below BN.out.1 hb) BN.out.2); have m2_ := Aside0.mk (And.intro (blk_below HX.out.1 hb) HX.out.2); clear HB BN HX; have HB := m0_; have BN := m1_; have HX := m2_; clear m0_ m1_ m2_; clear hb; have hn0 := (blk_cell BN.out.1 0).trans (show _ = some (.slice A0_0 l0_0.length c0_0) from rfl); have hn1 := (blk_cell BN.out.1 1).trans (show _ = some (.slice (some ad) l0_1.length c0_1) from rfl); have hn2 := (blk_cell BN.out.1 2).trans (show _ = some (.slice A0_2 l0_2.length c0_2) from rfl); have hn3 := (blk_cell BN.out.1 3).trans (show _ = some (.slice A0_3 l0_3.length c0_3) from rfl); have hn4 := (blk_cell BN.out.1 4).trans (show _ = some (.slice A0_4 l0_4.length c0_4) from rfl); have hn5 := (blk_cell BN.out.1 5).trans (show _ = some (.slice A0_5 l0_5.length c0_5) from rfl); have hx0 := (blk_cell HX.out.1 0).trans (show _ = some (.int .i64 x0) from rfl); have hx1 := (blk_cell HX.out.1 1).trans (show _ = some (.int .i64 x1) from rfl); have hx2 := (blk_cell HX.out.1 2).trans (show _ = some (.int .i64 x2) from rfl)) | (go_at_call 80; (with_reducible refine (HWI.out _).mono ?_); rintro e wi ⟨rfl, hd⟩; have hb := hd.below; clear hd; clear hn0 hn1 hn2 hn3 hn4 hn5; clear hx0 hx1 hx2; have m0_ := Aside0.mk (HB.out.trans (hb.mono HB.out.size)); have m1_ := Aside0.mk (And.intro (blk_below BN.out.1 hb) BN.out.2); have m2_ := Aside0.mk (And.intro (blk_below HX.out.1 hb) HX.out.2); clear HB BN HX; have HB := m0_; have BN := m1_; have HX := m2_; clear m0_ m1_ m2_; clear hb; have hn0 := (blk_cell BN.out.1 0).trans (show _ = some (.slice A0_0 l0_0.length c0_0) from rfl); have hn1 := (blk_cell BN.out.1 1).trans (show _ = some (.slice (some ad) l0_1.length c0_1) from rfl); have hn2 := (blk_cell BN.out.1 2).trans (show _ = some (.slice A0_2 l0_2.length c0_2) from rfl); have hn3 := (blk_cell BN.out.1 3).trans (show _ = some (.slice A0_3 l0_3.length c0_3) from rfl); have hn4 := (blk_cell BN.out.1 4).trans (show _ = some (.slice A0_4 l0_4.length c0_4) from rfl); have hn5 := (blk_cell BN.out.1 5).trans (show _ = some (.slice A0_5 l0_5.length c0_5) from rfl); have hx0 := (blk_cell HX.out.1 0).trans (show _ = some (.int .i64 x0) from rfl); have hx1 := (blk_cell HX.out.1 1).trans (show _ = some (.int .i64 x1) from rfl); have hx2 := (blk_cell HX.out.1 2).trans (show _ = some (.int .i64 x2) from rfl)))
              go_ret
              exact ⟨rfl, HB.out⟩
             | false =>
              rw [he] at hN
              by_cases hq : lk < (kk : Int)
              ·have hq2 : decide (lk < (kk : Int)) = true := decide_eq_true hq
               rw [hq2] at hN
               simp only [Bool.true_and, Bool.false_and, Bool.and_false, Bool.not_true, Bool.not_false] at hN
               subst hN
               have h := H.out
               rw [if_neg Bool.false_ne_true] at h
               obtain rfl := Option.some.inj h
               clear h
               go_wp2_with (first | ((with_reducible refine gate_dst (N := 6) rfl ?_); refine box_event ?hg (N := 6) ?hd (cs := #[.int .i64 0, .int .i64 0, .int .i64 0]) (t := 92) ?hr ?_; (case hd => rfl); (case hg => rfl); (case hr => first | (go_simp; done) | (go_simp; rfl)); intro g6 hg6 w6 hbox hbb; have HX := Aside0.mk (And.intro hbox (And.intro (show w.heap.size ≤ g6 by rw [hg6]; exact HB.out.size) (show gn ≠ g6 by rw [hg6]; exact Nat.ne_of_lt (blk_lt BN.out.1)))); clear hn0 hn1 hn2 hn3 hn4 hn5; clear hx0 hx1 hx2; have m0_ := Aside0.mk (HB.out.trans (hbb.mono HB.out.size)); have m1_ := Aside0.mk (And.intro (blk_below BN.out.1 hbb) BN.out.2); clear HB BN; have HB := m0_; have BN := m1_; clear m0_ m1_; clear hbb hbox hg6) | ((with_reducible refine gate_store (t := 92) (p := 6) rfl ?_); have hc0 := (blk_cell HX.out.1 0).trans (show _ = some (.int .i64 0) from rfl); have hc1 := (blk_cell HX.out.1 1).trans (show _ = some (.int .i64 0) from rfl); have hc2 := (blk_cell HX.out.1 2).trans (show _ = some (.int .i64 0) from rfl); have hf0 := blk_frozen HX.out.1 0; have hf1 := blk_frozen HX.out.1 1; have hf2 := blk_frozen HX.out.1 2; refine store_event (t := 92) (p := 6) (v := ?vo) (w1 := ((w6.setCell ⟨g6, 0, none⟩ (.int .i64 x0)).setCell ⟨g6, 1, none⟩ (.int .i64 x1)).setCell ⟨g6, 2, none⟩ (.int .i64 x2)) ?hg ?ho ?hn ?hr ?_; (case ho => rfl); (case hg => rfl); (case hn => rfl); (case hr => first | (go_simp; done) | (go_simp; rfl)); clear hc0 hc1 hc2 hf0 hf1 hf2; intro w7 hw_; obtain ⟨hbk, hkb, hkw⟩ := box_put92 (a := .int .i64 x0) (b := .int .i64 x1) (v := .int .i64 x2) HX.out.1; rw [← hw_] at hbk hkb hkw; clear hw_; have m0_ := Aside0.mk (hkw _ HB.out HX.out.2.1); have m1_ := Aside0.mk (And.intro (blk_kept BN.out.1 hkb (fun h_ => HX.out.2.2 h_)) BN.out.2); have m2_ := Aside0.mk (And.intro hbk HX.out.2); clear HB BN HX; have HB := m0_; have BN := m1_; have HX := m2_; clear m0_ m1_ m2_; clear hbk hkb hkw; have hn0 := (blk_cell BN.out.1 0).trans (show _ = some (.slice A0_0 l0_0.length c0_0) from rfl); have hn1 := (blk_cell BN.out.1 1).trans (show _ = some (.slice (some ad) l0_1.length c0_1) from rfl); have hn2 := (blk_cell BN.out.1 2).trans (show _ = some (.slice A0_2 l0_2.length c0_2) from rfl); have hn3 := (blk_cell BN.out.1 3).trans (show _ = some (.slice A0_3 l0_3.length c0_3) from rfl); have hn4 := (blk_cell BN.out.1 4).trans (show _ = some (.slice A0_4 l0_4.length c0_4) from rfl); have hn5 := (blk_cell BN.out.1 5).trans (show _ = some (.slice A0_5 l0_5.length c0_5) from rfl); have hx0 := (blk_cell HX.out.1 0).trans (show _ = some (.int .i64 x0) from rfl); have hx1 := (blk_cell HX.out.1 1).trans (show _ = some (.int .i64 x1) from rfl); have hx2 := (blk_cell HX.out.1 2).trans (show _ = some (.int .i64 x2) from rfl)) | (go_at_call 64; (with_reducible refine (HRA.out _ HB.out).mono ?_); rintro e wi ⟨rfl, hb⟩; clear hn0 hn1 hn2 hn3 hn4 hn5; clear hx0 hx1 hx2; have m0_ := Aside0.mk (HB.out.trans (hb.mono HB.out.size)); have m1_ := Aside0.mk (And.intro (blk_below BN.out.1 hb) BN.out.2); have m2_ := Aside0.mk (And.intro (blk_below HX.out.1 hb) HX.out.2); clear HB BN HX; have HB := m0_; have BN := m1_; have HX := m2_; clear m0_ m1_ m2_; clear hb; have hn0 := (blk_cell BN.out.1 0).trans (show _ = some (.slice A0_0 l0_0.length c0_0) from rfl); have hn1 := (blk_cell BN.out.1 1).trans (show _ = some (.slice (some ad) l0_1.length c0_1) from rfl); have hn2 := (blk_cell BN.out.1 2).trans (show _ = some (.slice A0_2 l0_2.length c0_2) from rfl); have hn3 := (blk_cell BN.out.1 3).trans (show _ = some (.slice A0_3 l0_3.length c0_3) from rfl); have hn4 := (blk_cell BN.out.1 4).trans (show _ = some (.slice A0_4 l0_4.length c0_4) from rfl); have hn5 := (blk_cell BN.out.1 5).trans (show _ = some (.slice A0_5 l0_5.length c0_5) from rfl); have hx0 := (blk_cell HX.out.1 0).trans (show _ = some (.int .i64 x0) from rfl); have hx1 := (blk_cell HX.out.1 1).trans (show _ = some (.int .i64 x1) from rfl); have hx2 := (blk_cell HX.out.1 2).trans (show _ = some (.int .i64 x2) from rfl)) | (go_at_call 64; (with_reducible refine (HRB.out _ HB.out).mono ?_); rintro e wi ⟨rfl, hb⟩; clear hn0 hn1 hn2 hn3 hn4 hn5; clear hx0 hx1 hx2; have m0_ := Aside0.mk (HB.out.trans (hb.mono HB.out.size)); have m1_ := Aside0.mk (And.intro (blk_below BN.out.1 hb) BN.out.2); have m2_ := Aside0.mk (And.intro (blk_below HX.out.1 hb) HX.out.2); clear HB BN HX; have HB := m0_; have BN := m1_; have HX := m2_; clear m0_ m1_ m2_; clear hb; have hn0 := (blk_cell BN.out.1 0).trans (show _ = some (.slice A0_0 l0_0.length c0_0) from rfl); have hn1 := (blk_cell BN.out.1 1).trans (show _ = some (.slice (some ad) l0_1.length c0_1) from rfl); have hn2 := (blk_cell BN.out.1 2).trans (show _ = some (.slice A0_2 l0_2.length c0_2) from rfl); have hn3 := (blk_cell BN.out.1 3).trans (show _ = some (.slice A0_3 l0_3.length c0_3) from rfl); have hn4 := (blk_cell BN.out.1 4).trans (show _ = some (.slice A0_4 l0_4.length c0_4) from rfl); have hn5 := (blk_cell BN.out.1 5).trans (show _ = some (.slice A0_5 l0_5.length c0_5) from rfl); have hx0 := (blk_cell HX.out.1 0).trans (show _ = some (.int .i64 x0) from rfl); have hx1 := (blk_cell HX.out.1 1).trans (show _ = some (.int .i64 x1) from rfl); have hx2 := (blk_cell HX.out.1 2).trans (show _ = some (.int .i64 x2) from rfl)) | (go_at_call 89; (with_reducible refine (HLK.out _ HB.out).mono ?_); rintro e wi ⟨rfl, hb⟩; clear hn0 hn1 hn2 hn3 hn4 hn5; clear hx0 hx1 hx2; have m0_ := Aside0.mk (HB.out.trans (hb.mono HB.out.size)); have m1_ := Aside0.mk (And.intro (blk_below BN.out.1 hb) BN.out.2); have m2_ := Aside0.mk (And.intro (blk_below HX.out.1 hb) HX.out.2); clear HB BN HX; have HB := m0_; have BN := m1_; have HX := m2_; clear m0_ m1_ m2_; clear hb; have hn0 := (blk_cell BN.out.1 0).trans (show _ = some (.slice A0_0 l0_0.length c0_0) from rfl); have hn1 := (blk_cell BN.out.1 1).trans (show _ = some (.slice (some ad) l0_1.length c0_1) from rfl); have hn2 := (blk_cell BN.out.1 2).trans (show _ = some (.slice A0_2 l0_2.length c0_2) from rfl); have hn3 := (blk_cell BN.out.1 3).trans (show _ = some (.slice A0_3 l0_3.length c0_3) from rfl); have hn4 := (blk_cell BN.out.1 4).trans (show _ = some (.slice A0_4 l0_4.length c0_4) from rfl); have hn5 := (blk_cell BN.out.1 5).trans (show _ = some (.slice A0_5 l0_5.length c0_5) from rfl); have hx0 := (blk_cell HX.out.1 0).trans (show _ = some (.int .i64 x0) from rfl); have hx1 := (blk_cell HX.out.1 1).trans (show _ = some (.int .i64 x1) from rfl); have hx2 := (blk_cell HX.out.1 2).trans (show _ = some (.int .i64 x2) from rfl)) | (go_at_call 80; (with_reducible refine (HWI.out _).mono ?_); rintro e wi ⟨rfl, hd⟩; have hb := hd.below; clear hd; clear hn0 hn1 hn2 hn3 hn4 hn5; clear hx0 hx1 hx2; have m0_ := Aside0.mk (HB.out.trans (hb.mono HB.out.size)); have m1_ := Aside0.mk (And.intro (blk_below BN.out.1 hb) BN.out.2); have m2_ := Aside0.mk (And.intro (blk_below HX.out.1 hb) HX.out.2); clear HB BN HX; have HB := m0_; have BN := m1_; have HX := m2_; clear m0_ m1_ m2_; clear hb; have hn0 := (blk_cell BN.out.1 0).trans (show _ = some (.slice A0_0 l0_0.length c0_0) from rfl); have hn1 := (blk_cell BN.out.1 1).trans (show _ = some (.slice (some ad) l0_1.length c0_1) from rfl); have hn2 := (blk_cell BN.out.1 2).trans (show _ = some (.slice A0_2 l0_2.length c0_2) from rfl); have hn3 := (blk_cell BN.out.1 3).trans (show _ = some (.slice A0_3 l0_3.length c0_3) from rfl); have hn4 := (blk_cell BN.out.1 4).trans (show _ = some (.slice A0_4 l0_4.length c0_4) from rfl); have hn5 := (blk_cell BN.out.1 5).trans (show _ = some (.slice A0_5 l0_5.length c0_5) from rfl); have hx0 := (blk_cell HX.out.1 0).trans (show _ = some (.int .i64 x0) from rfl); have hx1 := (blk_cell HX.out.1 1).trans (show _ = some (.int .i64 x1) from rfl); have hx2 := (blk_cell HX.out.1 2).trans (show _ = some (.int .i64 x2) from rfl)))
               go_ret
               exact ⟨rfl, HB.out⟩
              ·have hq2 : decide (lk < (kk : Int)) = false := decide_eq_false hq
               rw [hq2] at hN
               cases ci with
               | false =>
                simp only [Bool.true_and, Bool.false_and, Bool.and_false, Bool.not_true, Bool.not_false] at hN
                subst hN
                have h := H.out
                rw [if_neg Bool.false_ne_true] at h
                obtain rfl := Option.some.inj h
                clear h
                go_wp2_with (first | ((with_reducible refine gate_dst (N := 6) rfl ?_); refine box_event ?hg (N := 6) ?hd (cs := #[.int .i64 0, .int .i64 0, .int .i64 0]) (t := 92) ?hr ?_; (case hd => rfl); (case hg => rfl); (case hr => first | (go_simp; done) | (go_simp; rfl)); intro g6 hg6 w6 hbox hbb; have HX := Aside0.mk (And.intro hbox (And.intro (show w.heap.size ≤ g6 by rw [hg6]; exact HB.out.size) (show gn ≠ g6 by rw [hg6]; exact Nat.ne_of_lt (blk_lt BN.out.1)))); clear hn0 hn1 hn2 hn3 hn4 hn5; clear hx0 hx1 hx2; have m0_ := Aside0.mk (HB.out.trans (hbb.mono HB.out.size)); have m1_ := Aside0.mk (And.intro (blk_below BN.out.1 hbb) BN.out.2); clear HB BN; have HB := m0_; have BN := m1_; clear m0_ m1_; clear hbb hbox hg6) | ((with_reducible refine gate_store (t := 92) (p := 6) rfl ?_); have hc0 := (blk_cell HX.out.1 0).trans (show _ = some (.int .i64 0) from rfl); have hc1 := (blk_cell HX.out.1 1).trans (show _ = some (.int .i64 0) from rfl); have hc2 := (blk_cell HX.out.1 2).trans (show _ = some (.int .i64 0) from rfl); have hf0 := blk_frozen HX.out.1 0; have hf1 := blk_frozen HX.out.1 1; have hf2 := blk_frozen HX.out.1 2; refine store_event (t := 92) (p := 6) (v := ?vo) (w1 := ((w6.setCell ⟨g6, 0, none⟩ (.int .i64 x0)).setCell ⟨g6, 1, none⟩ (.int .i64 x1)).setCell ⟨g6, 2, none⟩ (.int .i64 x2)) ?hg ?ho ?hn ?hr ?_; (case ho => rfl); (case hg => rfl); (case hn => rfl); (case hr => first | (go_simp; done) | (go_simp; rfl)); clear hc0 hc1 hc2 hf0 hf1 hf2; intro w7 hw_; obtain ⟨hbk, hkb, hkw⟩ := box_put92 (a := .int .i64 x0) (b := .int .i64 x1) (v := .int .i64 x2) HX.out.1; rw [← hw_] at hbk hkb hkw; clear hw_; have m0_ := Aside0.mk (hkw _ HB.out HX.out.2.1); have m1_ := Aside0.mk (And.intro (blk_kept BN.out.1 hkb (fun h_ => HX.out.2.2 h_)) BN.out.2); have m2_ := Aside0.mk (And.intro hbk HX.out.2); clear HB BN HX; have HB := m0_; have BN := m1_; have HX := m2_; clear m0_ m1_ m2_; clear hbk hkb hkw; have hn0 := (blk_cell BN.out.1 0).trans (show _ = some (.slice A0_0 l0_0.length c0_0) from rfl); have hn1 := (blk_cell BN.out.1 1).trans (show _ = some (.slice (some ad) l0_1.length c0_1) from rfl); have hn2 := (blk_cell BN.out.1 2).trans (show _ = some (.slice A0_2 l0_2.length c0_2) from rfl); have hn3 := (blk_cell BN.out.1 3).trans (show _ = some (.slice A0_3 l0_3.length c0_3) from rfl); have hn4 := (blk_cell BN.out.1 4).trans (show _ = some (.slice A0_4 l0_4.length c0_4) from rfl); have hn5 := (blk_cell BN.out.1 5).trans (show _ = some (.slice A0_5 l0_5.length c0_5) from rfl); have hx0 := (blk_cell HX.out.1 0).trans (show _ = some (.int .i64 x0) from rfl); have hx1 := (blk_cell HX.out.1 1).trans (show _ = some (.int .i64 x1) from rfl); have hx2 := (blk_cell HX.out.1 2).trans (show _ = some (.int .i64 x2) from rfl)) | (go_at_call 64; (with_reducible refine (HRA.out _ HB.out).mono ?_); rintro e wi ⟨rfl, hb⟩; clear hn0 hn1 hn2 hn3 hn4 hn5; clear hx0 hx1 hx2; have m0_ := Aside0.mk (HB.out.trans (hb.mono HB.out.size)); have m1_ := Aside0.mk (And.intro (blk_below BN.out.1 hb) BN.out.2); have m2_ := Aside0.mk (And.intro (blk_below HX.out.1 hb) HX.out.2); clear HB BN HX; have HB := m0_; have BN := m1_; have HX := m2_; clear m0_ m1_ m2_; clear hb; have hn0 := (blk_cell BN.out.1 0).trans (show _ = some (.slice A0_0 l0_0.length c0_0) from rfl); have hn1 := (blk_cell BN.out.1 1).trans (show _ = some (.slice (some ad) l0_1.length c0_1) from rfl); have hn2 := (blk_cell BN.out.1 2).trans (show _ = some (.slice A0_2 l0_2.length c0_2) from rfl); have hn3 := (blk_cell BN.out.1 3).trans (show _ = some (.slice A0_3 l0_3.length c0_3) from rfl); have hn4 := (blk_cell BN.out.1 4).trans (show _ = some (.slice A0_4 l0_4.length c0_4) from rfl); have hn5 := (blk_cell BN.out.1 5).trans (show _ = some (.slice A0_5 l0_5.length c0_5) from rfl); have hx0 := (blk_cell HX.out.1 0).trans (show _ = some (.int .i64 x0) from rfl); have hx1 := (blk_cell HX.out.1 1).trans (show _ = some (.int .i64 x1) from rfl); have hx2 := (blk_cell HX.out.1 2).trans (show _ = some (.int .i64 x2) from rfl)) | (go_at_call 64; (with_reducible refine (HRB.out _ HB.out).mono ?_); rintro e wi ⟨rfl, hb⟩; clear hn0 hn1 hn2 hn3 hn4 hn5; clear hx0 hx1 hx2; have m0_ := Aside0.mk (HB.out.trans (hb.mono HB.out.size)); have m1_ := Aside0.mk (And.intro (blk_below BN.out.1 hb) BN.out.2); have m2_ := Aside0.mk (And.intro (blk_below HX.out.1 hb) HX.out.2); clear HB BN HX; have HB := m0_; have BN := m1_; have HX := m2_; clear m0_ m1_ m2_; clear hb; have hn0 := (blk_cell BN.out.1 0).trans (show _ = some (.slice A0_0 l0_0.length c0_0) from rfl); have hn1 := (blk_cell BN.out.1 1).trans (show _ = some (.slice (some ad) l0_1.length c0_1) from rfl); have hn2 := (blk_cell BN.out.1 2).trans (show _ = some (.slice A0_2 l0_2.length c0_2) from rfl); have hn3 := (blk_cell BN.out.1 3).trans (show _ = some (.slice A0_3 l0_3.length c0_3) from rfl); have hn4 := (blk_cell BN.out.1 4).trans (show _ = some (.slice A0_4 l0_4.length c0_4) from rfl); have hn5 := (blk_cell BN.out.1 5).trans (show _ = some (.slice A0_5 l0_5.length c0_5) from rfl); have hx0 := (blk_cell HX.out.1 0).trans (show _ = some (.int .i64 x0) from rfl); have hx1 := (blk_cell HX.out.1 1).trans (show _ = some (.int .i64 x1) from rfl); have hx2 := (blk_cell HX.out.1 2).trans (show _ = some (.int .i64 x2) from rfl)) | (go_at_call 89; (with_reducible refine (HLK.out _ HB.out).mono ?_); rintro e wi ⟨rfl, hb⟩; clear hn0 hn1 hn2 hn3 hn4 hn5; clear hx0 hx1 hx2; have m0_ := Aside0.mk (HB.out.trans (hb.mono HB.out.size)); have m1_ := Aside0.mk (And.intro (blk_below BN.out.1 hb) BN.out.2); have m2_ := Aside0.mk (And.intro (blk_below HX.out.1 hb) HX.out.2); clear HB BN HX; have HB := m0_; have BN := m1_; have HX := m2_; clear m0_ m1_ m2_; clear hb; have hn0 := (blk_cell BN.out.1 0).trans (show _ = some (.slice A0_0 l0_0.length c0_0) from rfl); have hn1 := (blk_cell BN.out.1 1).trans (show _ = some (.slice (some ad) l0_1.length c0_1) from rfl); have hn2 := (blk_cell BN.out.1 2).trans (show _ = some (.slice A0_2 l0_2.length c0_2) from rfl); have hn3 := (blk_cell BN.out.1 3).trans (show _ = some (.slice A0_3 l0_3.length c0_3) from rfl); have hn4 := (blk_cell BN.out.1 4).trans (show _ = some (.slice A0_4 l0_4.length c0_4) from rfl); have hn5 := (blk_cell BN.out.1 5).trans (show _ = some (.slice A0_5 l0_5.length c0_5) from rfl); have hx0 := (blk_cell HX.out.1 0).trans (show _ = some (.int .i64 x0) from rfl); have hx1 := (blk_cell HX.out.1 1).trans (show _ = some (.int .i64 x1) from rfl); have hx2 := (blk_cell HX.out.1 2).trans (show _ = some (.int .i64 x2) from rfl)) | (go_at_call 80; (with_reducible refine (HWI.out _).mono ?_); rintro e wi ⟨rfl, hd⟩; have hb := hd.below; clear hd; clear hn0 hn1 hn2 hn3 hn4 hn5; clear hx0 hx1 hx2; have m0_ := Aside0.mk (HB.out.trans (hb.mono HB.out.size)); have m1_ := Aside0.mk (And.intro (blk_below BN.out.1 hb) BN.out.2); have m2_ := Aside0.mk (And.intro (blk_below HX.out.1 hb) HX.out.2); clear HB BN HX; have HB := m0_; have BN := m1_; have HX := m2_; clear m0_ m1_ m2_; clear hb; have hn0 := (blk_cell BN.out.1 0).trans (show _ = some (.slice A0_0 l0_0.length c0_0) from rfl); have hn1 := (blk_cell BN.out.1 1).trans (show _ = some (.slice (some ad) l0_1.length c0_1) from rfl); have hn2 := (blk_cell BN.out.1 2).trans (show _ = some (.slice A0_2 l0_2.length c0_2) from rfl); have hn3 := (blk_cell BN.out.1 3).trans (show _ = some (.slice A0_3 l0_3.length c0_3) from rfl); have hn4 := (blk_cell BN.out.1 4).trans (show _ = some (.slice A0_4 l0_4.length c0_4) from rfl); have hn5 := (blk_cell BN.out.1 5).trans (show _ = some (.slice A0_5 l0_5.length c0_5) from rfl); have hx0 := (blk_cell HX.out.1 0).trans (show _ = some (.int .i64 x0) from rfl); have hx1 := (blk_cell HX.out.1 1).trans (show _ = some (.int .i64 x1) from rfl); have hx2 := (blk_cell HX.out.1 2).trans (show _ = some (.int .i64 x2) from rfl)))
                go_ret
                exact ⟨rfl, HB.out⟩
               | true =>
                simp only [Bool.true_and, Bool.not_false] at hN
                have HL := Aside0.mk hN
                clear hN
                go_wp2_with (first | ((with_reducible refine gate_dst (N := 6) rfl ?_); refine box_event ?hg (N := 6) ?hd (cs := #[.int .i64 0, .int .i64 0, .int .i64 0]) (t := 92) ?hr ?_; (case hd => rfl); (case hg => rfl); (case hr => first | (go_simp; done) | (go_simp; rfl)); intro g6 hg6 w6 hbox hbb; have HX := Aside0.mk (And.intro hbox (And.intro (show w.heap.size ≤ g6 by rw [hg6]; exact HB.out.size) (show gn ≠ g6 by rw [hg6]; exact Nat.ne_of_lt (blk_lt BN.out.1)))); clear hn0 hn1 hn2 hn3 hn4 hn5; clear hx0 hx1 hx2; have m0_ := Aside0.mk (HB.out.trans (hbb.mono HB.out.size)); have m1_ := Aside0.mk (And.intro (blk_below BN.out.1 hbb) BN.out.2); clear HB BN; have HB := m0_; have BN := m1_; clear m0_ m1_; clear hbb hbox hg6) | ((with_reducible refine gate_store (t := 92) (p := 6) rfl ?_); have hc0 := (blk_cell HX.out.1 0).trans (show _ = some (.int .i64 0) from rfl); have hc1 := (blk_cell HX.out.1 1).trans (show _ = some (.int .i64 0) from rfl); have hc2 := (blk_cell HX.out.1 2).trans (show _ = some (.int .i64 0) from rfl); have hf0 := blk_frozen HX.out.1 0; have hf1 := blk_frozen HX.out.1 1; have hf2 := blk_frozen HX.out.1 2; refine store_event (t := 92) (p := 6) (v := ?vo) (w1 := ((w6.setCell ⟨g6, 0, none⟩ (.int .i64 x0)).setCell ⟨g6, 1, none⟩ (.int .i64 x1)).setCell ⟨g6, 2, none⟩ (.int .i64 x2)) ?hg ?ho ?hn ?hr ?_; (case ho => rfl); (case hg => rfl); (case hn => rfl); (case hr => first | (go_simp; done) | (go_simp; rfl)); clear hc0 hc1 hc2 hf0 hf1 hf2; intro w7 hw_; obtain ⟨hbk, hkb, hkw⟩ := box_put92 (a := .int .i64 x0) (b := .int .i64 x1) (v := .int .i64 x2) HX.out.1; rw [← hw_] at hbk hkb hkw; clear hw_; have m0_ := Aside0.mk (hkw _ HB.out HX.out.2.1); have m1_ := Aside0.mk (And.intro (blk_kept BN.out.1 hkb (fun h_ => HX.out.2.2 h_)) BN.out.2); have m2_ := Aside0.mk (And.intro hbk HX.out.2); clear HB BN HX; have HB := m0_; have BN := m1_; have HX := m2_; clear m0_ m1_ m2_; clear hbk hkb hkw; have hn0 := (blk_cell BN.out.1 0).trans (show _ = some (.slice A0_0 l0_0.length c0_0) from rfl); have hn1 := (blk_cell BN.out.1 1).trans (show _ = some (.slice (some ad) l0_1.length c0_1) from rfl); have hn2 := (blk_cell BN.out.1 2).trans (show _ = some (.slice A0_2 l0_2.length c0_2) from rfl); have hn3 := (blk_cell BN.out.1 3).trans (show _ = some (.slice A0_3 l0_3.length c0_3) from rfl); have hn4 := (blk_cell BN.out.1 4).trans (show _ = some (.slice A0_4 l0_4.length c0_4) from rfl); have hn5 := (blk_cell BN.out.1 5).trans (show _ = some (.slice A0_5 l0_5.length c0_5) from rfl); have hx0 := (blk_cell HX.out.1 0).trans (show _ = some (.int .i64 x0) from rfl); have hx1 := (blk_cell HX.out.1 1).trans (show _ = some (.int .i64 x1) from rfl); have hx2 := (blk_cell HX.out.1 2).trans (show _ = some (.int .i64 x2) from rfl)) | (go_at_call 64; (with_reducible refine (HRA.out _ HB.out).mono ?_); rintro e wi ⟨rfl, hb⟩; clear hn0 hn1 hn2 hn3 hn4 hn5; clear hx0 hx1 hx2; have m0_ := Aside0.mk (HB.out.trans (hb.mono HB.out.size)); have m1_ := Aside0.mk (And.intro (blk_below BN.out.1 hb) BN.out.2); have m2_ := Aside0.mk (And.intro (blk_below HX.out.1 hb) HX.out.2); clear HB BN HX; have HB := m0_; have BN := m1_; have HX := m2_; clear m0_ m1_ m2_; clear hb; have hn0 := (blk_cell BN.out.1 0).trans (show _ = some (.slice A0_0 l0_0.length c0_0) from rfl); have hn1 := (blk_cell BN.out.1 1).trans (show _ = some (.slice (some ad) l0_1.length c0_1) from rfl); have hn2 := (blk_cell BN.out.1 2).trans (show _ = some (.slice A0_2 l0_2.length c0_2) from rfl); have hn3 := (blk_cell BN.out.1 3).trans (show _ = some (.slice A0_3 l0_3.length c0_3) from rfl); have hn4 := (blk_cell BN.out.1 4).trans (show _ = some (.slice A0_4 l0_4.length c0_4) from rfl); have hn5 := (blk_cell BN.out.1 5).trans (show _ = some (.slice A0_5 l0_5.length c0_5) from rfl); have hx0 := (blk_cell HX.out.1 0).trans (show _ = some (.int .i64 x0) from rfl); have hx1 := (blk_cell HX.out.1 1).trans (show _ = some (.int .i64 x1) from rfl); have hx2 := (blk_cell HX.out.1 2).trans (show _ = some (.int .i64 x2) from rfl)) | (go_at_call 64; (with_reducible refine (HRB.out _ HB.out).mono ?_); rintro e wi ⟨rfl, hb⟩; clear hn0 hn1 hn2 hn3 hn4 hn5; clear hx0 hx1 hx2; have m0_ := Aside0.mk (HB.out.trans (hb.mono HB.out.size)); have m1_ := Aside0.mk (And.intro (blk_below BN.out.1 hb) BN.out.2); have m2_ := Aside0.mk (And.intro (blk_below HX.out.1 hb) HX.out.2); clear HB BN HX; have HB := m0_; have BN := m1_; have HX := m2_; clear m0_ m1_ m2_; clear hb; have hn0 := (blk_cell BN.out.1 0).trans (show _ = some (.slice A0_0 l0_0.length c0_0) from rfl); have hn1 := (blk_cell BN.out.1 1).trans (show _ = some (.slice (some ad) l0_1.length c0_1) from rfl); have hn2 := (blk_cell BN.out.1 2).trans (show _ = some (.slice A0_2 l0_2.length c0_2) from rfl); have hn3 := (blk_cell BN.out.1 3).trans (show _ = some (.slice A0_3 l0_3.length c0_3) from rfl); have hn4 := (blk_cell BN.out.1 4).trans (show _ = some (.slice A0_4 l0_4.length c0_4) from rfl); have hn5 := (blk_cell BN.out.1 5).trans (show _ = some (.slice A0_5 l0_5.length c0_5) from rfl); have hx0 := (blk_cell HX.out.1 0).trans (show _ = some (.int .i64 x0) from rfl); have hx1 := (blk_cell HX.out.1 1).trans (show _ = some (.int .i64 x1) from rfl); have hx2 := (blk_cell HX.out.1 2).trans (show _ = some (.int .i64 x2) from rfl)) | (go_at_call 89; (with_reducible refine (HLK.out _ HB.out).mono ?_); rintro e wi ⟨rfl, hb⟩; clear hn0 hn1 hn2 hn3 hn4 hn5; clear hx0 hx1 hx2; have m0_ := Aside0.mk (HB.out.trans (hb.mono HB.out.size)); have m1_ := Aside0.mk (And.intro (blk_below BN.out.1 hb) BN.out.2); have m2_ := Aside0.mk (And.intro (blk_below HX.out.1 hb) HX.out.2); clear HB BN HX; have HB := m0_; have BN := m1_; have HX := m2_; clear m0_ m1_ m2_; clear hb; have hn0 := (blk_cell BN.out.1 0).trans (show _ = some (.slice A0_0 l0_0.length c0_0) from rfl); have hn1 := (blk_cell BN.out.1 1).trans (show _ = some (.slice (some ad) l0_1.length c0_1) from rfl); have hn2 := (blk_cell BN.out.1 2).trans (show _ = some (.slice A0_2 l0_2.length c0_2) from rfl); have hn3 := (blk_cell BN.out.1 3).trans (show _ = some (.slice A0_3 l0_3.length c0_3) from rfl); have hn4 := (blk_cell BN.out.1 4).trans (show _ = some (.slice A0_4 l0_4.length c0_4) from rfl); have hn5 := (blk_cell BN.out.1 5).trans (show _ = some (.slice A0_5 l0_5.length c0_5) from rfl); have hx0 := (blk_cell HX.out.1 0).trans (show _ = some (.int .i64 x0) from rfl); have hx1 := (blk_cell HX.out.1 1).trans (show _ = some (.int .i64 x1) from rfl); have hx2 := (blk_cell HX.out.1 2).trans (show _ = some (.int .i64 x2) from rfl)) | (go_at_call 80; (with_reducible refine (HWI.out _).mono ?_); rintro e wi ⟨rfl, hd⟩; have hb := hd.below; clear hd; clear hn0 hn1 hn2 hn3 hn4 hn5; clear hx0 hx1 hx2; have m0_ := Aside0.mk (HB.out.trans (hb.mono HB.out.size)); have m1_ := Aside0.mk (And.intro (blk_below BN.out.1 hb) BN.out.2); have m2_ := Aside0.mk (And.intro (blk_below HX.out.1 hb) HX.out.2); clear HB BN HX; have HB := m0_; have BN := m1_; have HX := m2_; clear m0_ m1_ m2_; clear hb; have hn0 := (blk_cell BN.out.1 0).trans (show _ = some (.slice A0_0 l0_0.length c0_0) from rfl); have hn1 := (blk_cell BN.out.1 1).trans (show _ = some (.slice (some ad) l0_1.length c0_1) from rfl); have hn2 := (blk_cell BN.out.1 2).trans (show _ = some (.slice A0_2 l0_2.length c0_2) from rfl); have hn3 := (blk_cell BN.out.1 3).trans (show _ = some (.slice A0_3 l0_3.length c0_3) from rfl); have hn4 := (blk_cell BN.out.1 4).trans (show _ = some (.slice A0_4 l0_4.length c0_4) from rfl); have hn5 := (blk_cell BN.out.1 5).trans (show _ = some (.slice A0_5 l0_5.length c0_5) from rfl); have hx0 := (blk_cell HX.out.1 0).trans (show _ = some (.int .i64 x0) from rfl); have hx1 := (blk_cell HX.out.1 1).trans (show _ = some (.int .i64 x1) from rfl); have hx2 := (blk_cell HX.out.1 2).trans (show _ = some (.int .i64 x2) from rfl)))
                go_roundg (l0_1.length - (kk + 1))
                case measure => omega
                case rel => exact ⟨kk + 1, by omega, by omega, by go_num, HB, BN, HL⟩
          ·have hltz : ¬ (kk : Int) < (l0_1.length : Int) := by omega
           obtain rfl : kk = l0_1.length := by omega
           rw [List.drop_length, linksB] at hN
           subst hN
           have h := H.out
           rw [if_pos rfl] at h
           clear H
           have HI : Aside0 (∀ V : World, Below w.heap.size w V → V.heap[gn]? = some (.cells #[.slice A0_0 l0_0.length c0_0, .slice A0_1 l0_1.length c0_1, .slice A0_2 l0_2.length c0_2, .slice A0_3 l0_3.length c0_3, .slice A0_4 l0_4.length c0_4, .slice A0_5 l0_5.length c0_5] 38 (0, 0)) → Calls Try.prog 90 #[.slice A0_4 l0_4.length c0_4, .func (.func 91) #[] #[.pointer (some ⟨gn, 0, none⟩)]] V fun e W' => e = .returned (.bool (l0_4.any (impBad l0_1))) ∧ Below V.heap.size V W') := ⟨fun V hV hb => any95 (impBad l0_1) l0_4 91 #[.pointer (some ⟨gn, 0, none⟩)] (enters_of Try.func91 (by kernel_rfl) rfl) A0_4 c0_4 V (Kd.C_below HN.out.2.2.2.2.2.2.2.2.1 hV) (fun x W hW => imp_fn A0_0 c0_0 l0_0 A0_1 c0_1 l0_1 A0_2 c0_2 l0_2 A0_3 c0_3 l0_3 A0_4 c0_4 l0_4 A0_5 c0_5 l0_5 w HN gn x W (hV.trans (hW.mono hV.size)) (blk_below hb hW))⟩
           have HF : Aside0 (∀ V : World, Below w.heap.size w V → V.heap[gn]? = some (.cells #[.slice A0_0 l0_0.length c0_0, .slice A0_1 l0_1.length c0_1, .slice A0_2 l0_2.length c0_2, .slice A0_3 l0_3.length c0_3, .slice A0_4 l0_4.length c0_4, .slice A0_5 l0_5.length c0_5] 38 (0, 0)) → Calls Try.prog 93 #[.slice A0_5 l0_5.length c0_5, .func (.func 94) #[] #[.pointer (some ⟨gn, 0, none⟩)]] V fun e W' => e = .returned (.bool (l0_5.any (filtBad l0_1))) ∧ Below V.heap.size V W') := ⟨fun V hV hb => any97 (filtBad l0_1) l0_5 94 #[.pointer (some ⟨gn, 0, none⟩)] (enters_of Try.func94 (by kernel_rfl) rfl) A0_5 c0_5 V (Kd.C_below HN.out.2.2.2.2.2.2.2.2.2.2.1 hV) (fun x W hW => filt_fn A0_0 c0_0 l0_0 A0_1 c0_1 l0_1 A0_2 c0_2 l0_2 A0_3 c0_3 l0_3 A0_4 c0_4 l0_4 A0_5 c0_5 l0_5 w HN gn x W (hV.trans (hW.mono hV.size)) (blk_below hb hW))⟩
           generalize l0_4.any (impBad l0_1) = ib at h HI
           generalize l0_5.any (filtBad l0_1) = fb at h HF
           have hn0 := (blk_cell BN.out.1 0).trans (show _ = some (.slice A0_0 l0_0.length c0_0) from rfl)
           have hn1 := (blk_cell BN.out.1 1).trans (show _ = some (.slice A0_1 l0_1.length c0_1) from rfl)
           have hn2 := (blk_cell BN.out.1 2).trans (show _ = some (.slice A0_2 l0_2.length c0_2) from rfl)
           have hn3 := (blk_cell BN.out.1 3).trans (show _ = some (.slice A0_3 l0_3.length c0_3) from rfl)
           have hn4 := (blk_cell BN.out.1 4).trans (show _ = some (.slice A0_4 l0_4.length c0_4) from rfl)
           have hn5 := (blk_cell BN.out.1 5).trans (show _ = some (.slice A0_5 l0_5.length c0_5) from rfl)
           cases ib with
           | true =>
            rw [if_pos rfl] at h
            obtain rfl := Option.some.inj h
            clear h
            go_wp2_with (first | (go_at_call 90; (with_reducible refine (HI.out _ HB.out BN.out.1).mono ?_); rintro e wi ⟨rfl, hb⟩; clear hn0 hn1 hn2 hn3 hn4 hn5; have m0_ := Aside0.mk (HB.out.trans (hb.mono HB.out.size)); have m1_ := Aside0.mk (And.intro (blk_below BN.out.1 hb) BN.out.2); clear HB BN; have HB := m0_; have BN := m1_; clear m0_ m1_; clear hb; have hn0 := (blk_cell BN.out.1 0).trans (show _ = some (.slice A0_0 l0_0.length c0_0) from rfl); have hn1 := (blk_cell BN.out.1 1).trans (show _ = some (.slice A0_1 l0_1.length c0_1) from rfl); have hn2 := (blk_cell BN.out.1 2).trans (show _ = some (.slice A0_2 l0_2.length c0_2) from rfl); have hn3 := (blk_cell BN.out.1 3).trans (show _ = some (.slice A0_3 l0_3.length c0_3) from rfl); have hn4 := (blk_cell BN.out.1 4).trans (show _ = some (.slice A0_4 l0_4.length c0_4) from rfl); have hn5 := (blk_cell BN.out.1 5).trans (show _ = some (.slice A0_5 l0_5.length c0_5) from rfl)) | (go_at_call 93; (with_reducible refine (HF.out _ HB.out BN.out.1).mono ?_); rintro e wi ⟨rfl, hb⟩; clear hn0 hn1 hn2 hn3 hn4 hn5; have m0_ := Aside0.mk (HB.out.trans (hb.mono HB.out.size)); have m1_ := Aside0.mk (And.intro (blk_below BN.out.1 hb) BN.out.2); clear HB BN; have HB := m0_; have BN := m1_; clear m0_ m1_; clear hb; have hn0 := (blk_cell BN.out.1 0).trans (show _ = some (.slice A0_0 l0_0.length c0_0) from rfl); have hn1 := (blk_cell BN.out.1 1).trans (show _ = some (.slice A0_1 l0_1.length c0_1) from rfl); have hn2 := (blk_cell BN.out.1 2).trans (show _ = some (.slice A0_2 l0_2.length c0_2) from rfl); have hn3 := (blk_cell BN.out.1 3).trans (show _ = some (.slice A0_3 l0_3.length c0_3) from rfl); have hn4 := (blk_cell BN.out.1 4).trans (show _ = some (.slice A0_4 l0_4.length c0_4) from rfl); have hn5 := (blk_cell BN.out.1 5).trans (show _ = some (.slice A0_5 l0_5.length c0_5) from rfl)) | (go_at_call 95; (with_reducible refine (HAR.out _ HB.out).mono ?_); rintro e wi ⟨rfl, hb⟩; clear hn0 hn1 hn2 hn3 hn4 hn5; have m0_ := Aside0.mk (HB.out.trans (hb.mono HB.out.size)); have m1_ := Aside0.mk (And.intro (blk_below BN.out.1 hb) BN.out.2); clear HB BN; have HB := m0_; have BN := m1_; clear m0_ m1_; clear hb; have hn0 := (blk_cell BN.out.1 0).trans (show _ = some (.slice A0_0 l0_0.length c0_0) from rfl); have hn1 := (blk_cell BN.out.1 1).trans (show _ = some (.slice A0_1 l0_1.length c0_1) from rfl); have hn2 := (blk_cell BN.out.1 2).trans (show _ = some (.slice A0_2 l0_2.length c0_2) from rfl); have hn3 := (blk_cell BN.out.1 3).trans (show _ = some (.slice A0_3 l0_3.length c0_3) from rfl); have hn4 := (blk_cell BN.out.1 4).trans (show _ = some (.slice A0_4 l0_4.length c0_4) from rfl); have hn5 := (blk_cell BN.out.1 5).trans (show _ = some (.slice A0_5 l0_5.length c0_5) from rfl)) | (go_at_call 95; (with_reducible refine (HBR.out _ HB.out).mono ?_); rintro e wi ⟨rfl, hb⟩; clear hn0 hn1 hn2 hn3 hn4 hn5; have m0_ := Aside0.mk (HB.out.trans (hb.mono HB.out.size)); have m1_ := Aside0.mk (And.intro (blk_below BN.out.1 hb) BN.out.2); clear HB BN; have HB := m0_; have BN := m1_; clear m0_ m1_; clear hb; have hn0 := (blk_cell BN.out.1 0).trans (show _ = some (.slice A0_0 l0_0.length c0_0) from rfl); have hn1 := (blk_cell BN.out.1 1).trans (show _ = some (.slice A0_1 l0_1.length c0_1) from rfl); have hn2 := (blk_cell BN.out.1 2).trans (show _ = some (.slice A0_2 l0_2.length c0_2) from rfl); have hn3 := (blk_cell BN.out.1 3).trans (show _ = some (.slice A0_3 l0_3.length c0_3) from rfl); have hn4 := (blk_cell BN.out.1 4).trans (show _ = some (.slice A0_4 l0_4.length c0_4) from rfl); have hn5 := (blk_cell BN.out.1 5).trans (show _ = some (.slice A0_5 l0_5.length c0_5) from rfl)))
            go_ret
            exact ⟨rfl, HB.out⟩
           | false =>
            rw [if_neg Bool.false_ne_true] at h
            cases fb with
            | true =>
             rw [if_pos rfl] at h
             obtain rfl := Option.some.inj h
             clear h
             go_wp2_with (first | (go_at_call 90; (with_reducible refine (HI.out _ HB.out BN.out.1).mono ?_); rintro e wi ⟨rfl, hb⟩; clear hn0 hn1 hn2 hn3 hn4 hn5; have m0_ := Aside0.mk (HB.out.trans (hb.mono HB.out.size)); have m1_ := Aside0.mk (And.intro (blk_below BN.out.1 hb) BN.out.2); clear HB BN; have HB := m0_; have BN := m1_; clear m0_ m1_; clear hb; have hn0 := (blk_cell BN.out.1 0).trans (show _ = some (.slice A0_0 l0_0.length c0_0) from rfl); have hn1 := (blk_cell BN.out.1 1).trans (show _ = some (.slice A0_1 l0_1.length c0_1) from rfl); have hn2 := (blk_cell BN.out.1 2).trans (show _ = some (.slice A0_2 l0_2.length c0_2) from rfl); have hn3 := (blk_cell BN.out.1 3).trans (show _ = some (.slice A0_3 l0_3.length c0_3) from rfl); have hn4 := (blk_cell BN.out.1 4).trans (show _ = some (.slice A0_4 l0_4.length c0_4) from rfl); have hn5 := (blk_cell BN.out.1 5).trans (show _ = some (.slice A0_5 l0_5.length c0_5) from rfl)) | (go_at_call 93; (with_reducible refine (HF.out _ HB.out BN.out.1).mono ?_); rintro e wi ⟨rfl, hb⟩; clear hn0 hn1 hn2 hn3 hn4 hn5; have m0_ := Aside0.mk (HB.out.trans (hb.mono HB.out.size)); have m1_ := Aside0.mk (And.intro (blk_below BN.out.1 hb) BN.out.2); clear HB BN; have HB := m0_; have BN := m1_; clear m0_ m1_; clear hb; have hn0 := (blk_cell BN.out.1 0).trans (show _ = some (.slice A0_0 l0_0.length c0_0) from rfl); have hn1 := (blk_cell BN.out.1 1).trans (show _ = some (.slice A0_1 l0_1.length c0_1) from rfl); have hn2 := (blk_cell BN.out.1 2).trans (show _ = some (.slice A0_2 l0_2.length c0_2) from rfl); have hn3 := (blk_cell BN.out.1 3).trans (show _ = some (.slice A0_3 l0_3.length c0_3) from rfl); have hn4 := (blk_cell BN.out.1 4).trans (show _ = some (.slice A0_4 l0_4.length c0_4) from rfl); have hn5 := (blk_cell BN.out.1 5).trans (show _ = some (.slice A0_5 l0_5.length c0_5) from rfl)) | (go_at_call 95; (with_reducible refine (HAR.out _ HB.out).mono ?_); rintro e wi ⟨rfl, hb⟩; clear hn0 hn1 hn2 hn3 hn4 hn5; have m0_ := Aside0.mk (HB.out.trans (hb.mono HB.out.size)); have m1_ := Aside0.mk (And.intro (blk_below BN.out.1 hb) BN.out.2); clear HB BN; have HB := m0_; have BN := m1_; clear m0_ m1_; clear hb; have hn0 := (blk_cell BN.out.1 0).trans (show _ = some (.slice A0_0 l0_0.length c0_0) from rfl); have hn1 := (blk_cell BN.out.1 1).trans (show _ = some (.slice A0_1 l0_1.length c0_1) from rfl); have hn2 := (blk_cell BN.out.1 2).trans (show _ = some (.slice A0_2 l0_2.length c0_2) from rfl); have hn3 := (blk_cell BN.out.1 3).trans (show _ = some (.slice A0_3 l0_3.length c0_3) from rfl); have hn4 := (blk_cell BN.out.1 4).trans (show _ = some (.slice A0_4 l0_4.length c0_4) from rfl); have hn5 := (blk_cell BN.out.1 5).trans (show _ = some (.slice A0_5 l0_5.length c0_5) from rfl)) | (go_at_call 95; (with_reducible refine (HBR.out _ HB.out).mono ?_); rintro e wi ⟨rfl, hb⟩; clear hn0 hn1 hn2 hn3 hn4 hn5; have m0_ := Aside0.mk (HB.out.trans (hb.mono HB.out.size)); have m1_ := Aside0.mk (And.intro (blk_below BN.out.1 hb) BN.out.2); clear HB BN; have HB := m0_; have BN := m1_; clear m0_ m1_; clear hb; have hn0 := (blk_cell BN.out.1 0).trans (show _ = some (.slice A0_0 l0_0.length c0_0) from rfl); have hn1 := (blk_cell BN.out.1 1).trans (show _ = some (.slice A0_1 l0_1.length c0_1) from rfl); have hn2 := (blk_cell BN.out.1 2).trans (show _ = some (.slice A0_2 l0_2.length c0_2) from rfl); have hn3 := (blk_cell BN.out.1 3).trans (show _ = some (.slice A0_3 l0_3.length c0_3) from rfl); have hn4 := (blk_cell BN.out.1 4).trans (show _ = some (.slice A0_4 l0_4.length c0_4) from rfl); have hn5 := (blk_cell BN.out.1 5).trans (show _ = some (.slice A0_5 l0_5.length c0_5) from rfl)))
             go_ret
             exact ⟨rfl, HB.out⟩
            | false =>
             rw [if_neg Bool.false_ne_true] at h
             replace h := Option.bind_eq_some_iff.1 h
             obtain ⟨a, ha, h⟩ := h
             have HAR : Aside0 (∀ V : World, Below w.heap.size w V → Calls Try.prog 95 #[.agg #[.slice A0_0 l0_0.length c0_0, .slice A0_1 l0_1.length c0_1, .slice A0_2 l0_2.length c0_2, .slice A0_3 l0_3.length c0_3, .slice A0_4 l0_4.length c0_4, .slice A0_5 l0_5.length c0_5], .slice A0_2 l0_2.length c0_2] V fun e W' => e = .returned (.bool a) ∧ Below V.heap.size V W') := ⟨fun V hV => impl_areRouters.calls k A0_0 c0_0 l0_0 A0_1 c0_1 l0_1 A0_2 c0_2 l0_2 A0_3 c0_3 l0_3 A0_4 c0_4 l0_4 A0_5 c0_5 l0_5 A0_2 c0_2 l0_2 _ V (Kd.C_below HN.out.1 hV) HN.out.2.1 (Kd.C_below HN.out.2.2.1 hV) HN.out.2.2.2.1 (Kd.C_below HN.out.2.2.2.2.1 hV) HN.out.2.2.2.2.2.1 (Kd.C_below HN.out.2.2.2.2.2.2.1 hV) HN.out.2.2.2.2.2.2.2.1 (Kd.C_below HN.out.2.2.2.2.2.2.2.2.1 hV) HN.out.2.2.2.2.2.2.2.2.2.1 (Kd.C_below HN.out.2.2.2.2.2.2.2.2.2.2.1 hV) HN.out.2.2.2.2.2.2.2.2.2.2.2 (Kd.C_below HN.out.2.2.2.2.1 hV) HN.out.2.2.2.2.2.1 ha⟩
             clear ha
             cases a with
             | false =>
              rw [if_neg Bool.false_ne_true] at h
              obtain rfl := Option.some.inj h
              clear h
              go_wp2_with (first | (go_at_call 90; (with_reducible refine (HI.out _ HB.out BN.out.1).mono ?_); rintro e wi ⟨rfl, hb⟩; clear hn0 hn1 hn2 hn3 hn4 hn5; have m0_ := Aside0.mk (HB.out.trans (hb.mono HB.out.size)); have m1_ := Aside0.mk (And.intro (blk_below BN.out.1 hb) BN.out.2); clear HB BN; have HB := m0_; have BN := m1_; clear m0_ m1_; clear hb; have hn0 := (blk_cell BN.out.1 0).trans (show _ = some (.slice A0_0 l0_0.length c0_0) from rfl); have hn1 := (blk_cell BN.out.1 1).trans (show _ = some (.slice A0_1 l0_1.length c0_1) from rfl); have hn2 := (blk_cell BN.out.1 2).trans (show _ = some (.slice A0_2 l0_2.length c0_2) from rfl); have hn3 := (blk_cell BN.out.1 3).trans (show _ = some (.slice A0_3 l0_3.length c0_3) from rfl); have hn4 := (blk_cell BN.out.1 4).trans (show _ = some (.slice A0_4 l0_4.length c0_4) from rfl); have hn5 := (blk_cell BN.out.1 5).trans (show _ = some (.slice A0_5 l0_5.length c0_5) from rfl)) | (go_at_call 93; (with_reducible refine (HF.out _ HB.out BN.out.1).mono ?_); rintro e wi ⟨rfl, hb⟩; clear hn0 hn1 hn2 hn3 hn4 hn5; have m0_ := Aside0.mk (HB.out.trans (hb.mono HB.out.size)); have m1_ := Aside0.mk (And.intro (blk_below BN.out.1 hb) BN.out.2); clear HB BN; have HB := m0_; have BN := m1_; clear m0_ m1_; clear hb; have hn0 := (blk_cell BN.out.1 0).trans (show _ = some (.slice A0_0 l0_0.length c0_0) from rfl); have hn1 := (blk_cell BN.out.1 1).trans (show _ = some (.slice A0_1 l0_1.length c0_1) from rfl); have hn2 := (blk_cell BN.out.1 2).trans (show _ = some (.slice A0_2 l0_2.length c0_2) from rfl); have hn3 := (blk_cell BN.out.1 3).trans (show _ = some (.slice A0_3 l0_3.length c0_3) from rfl); have hn4 := (blk_cell BN.out.1 4).trans (show _ = some (.slice A0_4 l0_4.length c0_4) from rfl); have hn5 := (blk_cell BN.out.1 5).trans (show _ = some (.slice A0_5 l0_5.length c0_5) from rfl)) | (go_at_call 95; (with_reducible refine (HAR.out _ HB.out).mono ?_); rintro e wi ⟨rfl, hb⟩; clear hn0 hn1 hn2 hn3 hn4 hn5; have m0_ := Aside0.mk (HB.out.trans (hb.mono HB.out.size)); have m1_ := Aside0.mk (And.intro (blk_below BN.out.1 hb) BN.out.2); clear HB BN; have HB := m0_; have BN := m1_; clear m0_ m1_; clear hb; have hn0 := (blk_cell BN.out.1 0).trans (show _ = some (.slice A0_0 l0_0.length c0_0) from rfl); have hn1 := (blk_cell BN.out.1 1).trans (show _ = some (.slice A0_1 l0_1.length c0_1) from rfl); have hn2 := (blk_cell BN.out.1 2).trans (show _ = some (.slice A0_2 l0_2.length c0_2) from rfl); have hn3 := (blk_cell BN.out.1 3).trans (show _ = some (.slice A0_3 l0_3.length c0_3) from rfl); have hn4 := (blk_cell BN.out.1 4).trans (show _ = some (.slice A0_4 l0_4.length c0_4) from rfl); have hn5 := (blk_cell BN.out.1 5).trans (show _ = some (.slice A0_5 l0_5.length c0_5) from rfl)) | (go_at_call 95; (with_reducible refine (HBR.out _ HB.out).mono ?_); rintro e wi ⟨rfl, hb⟩; clear hn0 hn1 hn2 hn3 hn4 hn5; have m0_ := Aside0.mk (HB.out.trans (hb.mono HB.out.size)); have m1_ := Aside0.mk (And.intro (blk_below BN.out.1 hb) BN.out.2); clear HB BN; have HB := m0_; have BN := m1_; clear m0_ m1_; clear hb; have hn0 := (blk_cell BN.out.1 0).trans (show _ = some (.slice A0_0 l0_0.length c0_0) from rfl); have hn1 := (blk_cell BN.out.1 1).trans (show _ = some (.slice A0_1 l0_1.length c0_1) from rfl); have hn2 := (blk_cell BN.out.1 2).trans (show _ = some (.slice A0_2 l0_2.length c0_2) from rfl); have hn3 := (blk_cell BN.out.1 3).trans (show _ = some (.slice A0_3 l0_3.length c0_3) from rfl); have hn4 := (blk_cell BN.out.1 4).trans (show _ = some (.slice A0_4 l0_4.length c0_4) from rfl); have hn5 := (blk_cell BN.out.1 5).trans (show _ = some (.slice A0_5 l0_5.length c0_5) from rfl)))
              go_ret
              exact ⟨rfl, HB.out⟩
             | true =>
              rw [if_pos rfl] at h
              replace h := Option.bind_eq_some_iff.1 h
              obtain ⟨b, hb, h⟩ := h
              have HBR : Aside0 (∀ V : World, Below w.heap.size w V → Calls Try.prog 95 #[.agg #[.slice A0_0 l0_0.length c0_0, .slice A0_1 l0_1.length c0_1, .slice A0_2 l0_2.length c0_2, .slice A0_3 l0_3.length c0_3, .slice A0_4 l0_4.length c0_4, .slice A0_5 l0_5.length c0_5], .slice A0_3 l0_3.length c0_3] V fun e W' => e = .returned (.bool b) ∧ Below V.heap.size V W') := ⟨fun V hV => impl_areRouters.calls k A0_0 c0_0 l0_0 A0_1 c0_1 l0_1 A0_2 c0_2 l0_2 A0_3 c0_3 l0_3 A0_4 c0_4 l0_4 A0_5 c0_5 l0_5 A0_3 c0_3 l0_3 _ V (Kd.C_below HN.out.1 hV) HN.out.2.1 (Kd.C_below HN.out.2.2.1 hV) HN.out.2.2.2.1 (Kd.C_below HN.out.2.2.2.2.1 hV) HN.out.2.2.2.2.2.1 (Kd.C_below HN.out.2.2.2.2.2.2.1 hV) HN.out.2.2.2.2.2.2.2.1 (Kd.C_below HN.out.2.2.2.2.2.2.2.2.1 hV) HN.out.2.2.2.2.2.2.2.2.2.1 (Kd.C_below HN.out.2.2.2.2.2.2.2.2.2.2.1 hV) HN.out.2.2.2.2.2.2.2.2.2.2.2 (Kd.C_below HN.out.2.2.2.2.2.2.1 hV) HN.out.2.2.2.2.2.2.2.1 hb⟩
              clear hb
              cases b with
              | false =>
               rw [Bool.false_and] at h
               obtain rfl := Option.some.inj h
               clear h
               go_wp2_with (first | (go_at_call 90; (with_reducible refine (HI.out _ HB.out BN.out.1).mono ?_); rintro e wi ⟨rfl, hb⟩; clear hn0 hn1 hn2 hn3 hn4 hn5; have m0_ := Aside0.mk (HB.out.trans (hb.mono HB.out.size)); have m1_ := Aside0.mk (And.intro (blk_below BN.out.1 hb) BN.out.2); clear HB BN; have HB := m0_; have BN := m1_; clear m0_ m1_; clear hb; have hn0 := (blk_cell BN.out.1 0).trans (show _ = some (.slice A0_0 l0_0.length c0_0) from rfl); have hn1 := (blk_cell BN.out.1 1).trans (show _ = some (.slice A0_1 l0_1.length c0_1) from rfl); have hn2 := (blk_cell BN.out.1 2).trans (show _ = some (.slice A0_2 l0_2.length c0_2) from rfl); have hn3 := (blk_cell BN.out.1 3).trans (show _ = some (.slice A0_3 l0_3.length c0_3) from rfl); have hn4 := (blk_cell BN.out.1 4).trans (show _ = some (.slice A0_4 l0_4.length c0_4) from rfl); have hn5 := (blk_cell BN.out.1 5).trans (show _ = some (.slice A0_5 l0_5.length c0_5) from rfl)) | (go_at_call 93; (with_reducible refine (HF.out _ HB.out BN.out.1).mono ?_); rintro e wi ⟨rfl, hb⟩; clear hn0 hn1 hn2 hn3 hn4 hn5; have m0_ := Aside0.mk (HB.out.trans (hb.mono HB.out.size)); have m1_ := Aside0.mk (And.intro (blk_below BN.out.1 hb) BN.out.2); clear HB BN; have HB := m0_; have BN := m1_; clear m0_ m1_; clear hb; have hn0 := (blk_cell BN.out.1 0).trans (show _ = some (.slice A0_0 l0_0.length c0_0) from rfl); have hn1 := (blk_cell BN.out.1 1).trans (show _ = some (.slice A0_1 l0_1.length c0_1) from rfl); have hn2 := (blk_cell BN.out.1 2).trans (show _ = some (.slice A0_2 l0_2.length c0_2) from rfl); have hn3 := (blk_cell BN.out.1 3).trans (show _ = some (.slice A0_3 l0_3.length c0_3) from rfl); have hn4 := (blk_cell BN.out.1 4).trans (show _ = some (.slice A0_4 l0_4.length c0_4) from rfl); have hn5 := (blk_cell BN.out.1 5).trans (show _ = some (.slice A0_5 l0_5.length c0_5) from rfl)) | (go_at_call 95; (with_reducible refine (HAR.out _ HB.out).mono ?_); rintro e wi ⟨rfl, hb⟩; clear hn0 hn1 hn2 hn3 hn4 hn5; have m0_ := Aside0.mk (HB.out.trans (hb.mono HB.out.size)); have m1_ := Aside0.mk (And.intro (blk_below BN.out.1 hb) BN.out.2); clear HB BN; have HB := m0_; have BN := m1_; clear m0_ m1_; clear hb; have hn0 := (blk_cell BN.out.1 0).trans (show _ = some (.slice A0_0 l0_0.length c0_0) from rfl); have hn1 := (blk_cell BN.out.1 1).trans (show _ = some (.slice A0_1 l0_1.length c0_1) from rfl); have hn2 := (blk_cell BN.out.1 2).trans (show _ = some (.slice A0_2 l0_2.length c0_2) from rfl); have hn3 := (blk_cell BN.out.1 3).trans (show _ = some (.slice A0_3 l0_3.length c0_3) from rfl); have hn4 := (blk_cell BN.out.1 4).trans (show _ = some (.slice A0_4 l0_4.length c0_4) from rfl); have hn5 := (blk_cell BN.out.1 5).trans (show _ = some (.slice A0_5 l0_5.length c0_5) from rfl)) | (go_at_call 95; (with_reducible refine (HBR.out _ HB.out).mono ?_); rintro e wi ⟨rfl, hb⟩; clear hn0 hn1 hn2 hn3 hn4 hn5; have m0_ := Aside0.mk (HB.out.trans (hb.mono HB.out.size)); have m1_ := Aside0.mk (And.intro (blk_below BN.out.1 hb) BN.out.2); clear HB BN; have HB := m0_; have BN := m1_; clear m0_ m1_; clear hb; have hn0 := (blk_cell BN.out.1 0).trans (show _ = some (.slice A0_0 l0_0.length c0_0) from rfl); have hn1 := (blk_cell BN.out.1 1).trans (show _ = some (.slice A0_1 l0_1.length c0_1) from rfl); have hn2 := (blk_cell BN.out.1 2).trans (show _ = some (.slice A0_2 l0_2.length c0_2) from rfl); have hn3 := (blk_cell BN.out.1 3).trans (show _ = some (.slice A0_3 l0_3.length c0_3) from rfl); have hn4 := (blk_cell BN.out.1 4).trans (show _ = some (.slice A0_4 l0_4.length c0_4) from rfl); have hn5 := (blk_cell BN.out.1 5).trans (show _ = some (.slice A0_5 l0_5.length c0_5) from rfl)))
               go_ret
               exact ⟨rfl, HB.out⟩
              | true =>
               by_cases hl : l0_3.length ≤ 2
               ·have hl2 : decide ((l0_3.length : Int) ≤ 2) = true := decide_eq_true (by omega)
                rw [decide_eq_true hl, Bool.true_and] at h
                obtain rfl := Option.some.inj h
                clear h
                go_wp2_with (first | (go_at_call 90; (with_reducible refine (HI.out _ HB.out BN.out.1).mono ?_); rintro e wi ⟨rfl, hb⟩; clear hn0 hn1 hn2 hn3 hn4 hn5; have m0_ := Aside0.mk (HB.out.trans (hb.mono HB.out.size)); have m1_ := Aside0.mk (And.intro (blk_below BN.out.1 hb) BN.out.2); clear HB BN; have HB := m0_; have BN := m1_; clear m0_ m1_; clear hb; have hn0 := (blk_cell BN.out.1 0).trans (show _ = some (.slice A0_0 l0_0.length c0_0) from rfl); have hn1 := (blk_cell BN.out.1 1).trans (show _ = some (.slice A0_1 l0_1.length c0_1) from rfl); have hn2 := (blk_cell BN.out.1 2).trans (show _ = some (.slice A0_2 l0_2.length c0_2) from rfl); have hn3 := (blk_cell BN.out.1 3).trans (show _ = some (.slice A0_3 l0_3.length c0_3) from rfl); have hn4 := (blk_cell BN.out.1 4).trans (show _ = some (.slice A0_4 l0_4.length c0_4) from rfl); have hn5 := (blk_cell BN.out.1 5).trans (show _ = some (.slice A0_5 l0_5.length c0_5) from rfl)) | (go_at_call 93; (with_reducible refine (HF.out _ HB.out BN.out.1).mono ?_); rintro e wi ⟨rfl, hb⟩; clear hn0 hn1 hn2 hn3 hn4 hn5; have m0_ := Aside0.mk (HB.out.trans (hb.mono HB.out.size)); have m1_ := Aside0.mk (And.intro (blk_below BN.out.1 hb) BN.out.2); clear HB BN; have HB := m0_; have BN := m1_; clear m0_ m1_; clear hb; have hn0 := (blk_cell BN.out.1 0).trans (show _ = some (.slice A0_0 l0_0.length c0_0) from rfl); have hn1 := (blk_cell BN.out.1 1).trans (show _ = some (.slice A0_1 l0_1.length c0_1) from rfl); have hn2 := (blk_cell BN.out.1 2).trans (show _ = some (.slice A0_2 l0_2.length c0_2) from rfl); have hn3 := (blk_cell BN.out.1 3).trans (show _ = some (.slice A0_3 l0_3.length c0_3) from rfl); have hn4 := (blk_cell BN.out.1 4).trans (show _ = some (.slice A0_4 l0_4.length c0_4) from rfl); have hn5 := (blk_cell BN.out.1 5).trans (show _ = some (.slice A0_5 l0_5.length c0_5) from rfl)) | (go_at_call 95; (with_reducible refine (HAR.out _ HB.out).mono ?_); rintro e wi ⟨rfl, hb⟩; clear hn0 hn1 hn2 hn3 hn4 hn5; have m0_ := Aside0.mk (HB.out.trans (hb.mono HB.out.size)); have m1_ := Aside0.mk (And.intro (blk_below BN.out.1 hb) BN.out.2); clear HB BN; have HB := m0_; have BN := m1_; clear m0_ m1_; clear hb; have hn0 := (blk_cell BN.out.1 0).trans (show _ = some (.slice A0_0 l0_0.length c0_0) from rfl); have hn1 := (blk_cell BN.out.1 1).trans (show _ = some (.slice A0_1 l0_1.length c0_1) from rfl); have hn2 := (blk_cell BN.out.1 2).trans (show _ = some (.slice A0_2 l0_2.length c0_2) from rfl); have hn3 := (blk_cell BN.out.1 3).trans (show _ = some (.slice A0_3 l0_3.length c0_3) from rfl); have hn4 := (blk_cell BN.out.1 4).trans (show _ = some (.slice A0_4 l0_4.length c0_4) from rfl); have hn5 := (blk_cell BN.out.1 5).trans (show _ = some (.slice A0_5 l0_5.length c0_5) from rfl)) | (go_at_call 95; (with_reducible refine (HBR.out _ HB.out).mono ?_); rintro e wi ⟨rfl, hb⟩; clear hn0 hn1 hn2 hn3 hn4 hn5; have m0_ := Aside0.mk (HB.out.trans (hb.mono HB.out.size)); have m1_ := Aside0.mk (And.intro (blk_below BN.out.1 hb) BN.out.2); clear HB BN; have HB := m0_; have BN := m1_; clear m0_ m1_; clear hb; have hn0 := (blk_cell BN.out.1 0).trans (show _ = some (.slice A0_0 l0_0.length c0_0) from rfl); have hn1 := (blk_cell BN.out.1 1).trans (show _ = some (.slice A0_1 l0_1.length c0_1) from rfl); have hn2 := (blk_cell BN.out.1 2).trans (show _ = some (.slice A0_2 l0_2.length c0_2) from rfl); have hn3 := (blk_cell BN.out.1 3).trans (show _ = some (.slice A0_3 l0_3.length c0_3) from rfl); have hn4 := (blk_cell BN.out.1 4).trans (show _ = some (.slice A0_4 l0_4.length c0_4) from rfl); have hn5 := (blk_cell BN.out.1 5).trans (show _ = some (.slice A0_5 l0_5.length c0_5) from rfl)))
                go_ret
                exact ⟨rfl, HB.out⟩
               ·have hl2 : decide ((l0_3.length : Int) ≤ 2) = false := decide_eq_false (by omega)
                rw [decide_eq_false hl, Bool.true_and] at h
                obtain rfl := Option.some.inj h
                clear h
                go_wp2_with (first | (go_at_call 90; (with_reducible refine (HI.out _ HB.out BN.out.1).mono ?_); rintro e wi ⟨rfl, hb⟩; clear hn0 hn1 hn2 hn3 hn4 hn5; have m0_ := Aside0.mk (HB.out.trans (hb.mono HB.out.size)); have m1_ := Aside0.mk (And.intro (blk_below BN.out.1 hb) BN.out.2); clear HB BN; have HB := m0_; have BN := m1_; clear m0_ m1_; clear hb; have hn0 := (blk_cell BN.out.1 0).trans (show _ = some (.slice A0_0 l0_0.length c0_0) from rfl); have hn1 := (blk_cell BN.out.1 1).trans (show _ = some (.slice A0_1 l0_1.length c0_1) from rfl); have hn2 := (blk_cell BN.out.1 2).trans (show _ = some (.slice A0_2 l0_2.length c0_2) from rfl); have hn3 := (blk_cell BN.out.1 3).trans (show _ = some (.slice A0_3 l0_3.length c0_3) from rfl); have hn4 := (blk_cell BN.out.1 4).trans (show _ = some (.slice A0_4 l0_4.length c0_4) from rfl); have hn5 := (blk_cell BN.out.1 5).trans (show _ = some (.slice A0_5 l0_5.length c0_5) from rfl)) | (go_at_call 93; (with_reducible refine (HF.out _ HB.out BN.out.1).mono ?_); rintro e wi ⟨rfl, hb⟩; clear hn0 hn1 hn2 hn3 hn4 hn5; have m0_ := Aside0.mk (HB.out.trans (hb.mono HB.out.size)); have m1_ := Aside0.mk (And.intro (blk_below BN.out.1 hb) BN.out.2); clear HB BN; have HB := m0_; have BN := m1_; clear m0_ m1_; clear hb; have hn0 := (blk_cell BN.out.1 0).trans (show _ = some (.slice A0_0 l0_0.length c0_0) from rfl); have hn1 := (blk_cell BN.out.1 1).trans (show _ = some (.slice A0_1 l0_1.length c0_1) from rfl); have hn2 := (blk_cell BN.out.1 2).trans (show _ = some (.slice A0_2 l0_2.length c0_2) from rfl); have hn3 := (blk_cell BN.out.1 3).trans (show _ = some (.slice A0_3 l0_3.length c0_3) from rfl); have hn4 := (blk_cell BN.out.1 4).trans (show _ = some (.slice A0_4 l0_4.length c0_4) from rfl); have hn5 := (blk_cell BN.out.1 5).trans (show _ = some (.slice A0_5 l0_5.length c0_5) from rfl)) | (go_at_call 95; (with_reducible refine (HAR.out _ HB.out).mono ?_); rintro e wi ⟨rfl, hb⟩; clear hn0 hn1 hn2 hn3 hn4 hn5; have m0_ := Aside0.mk (HB.out.trans (hb.mono HB.out.size)); have m1_ := Aside0.mk (And.intro (blk_below BN.out.1 hb) BN.out.2); clear HB BN; have HB := m0_; have BN := m1_; clear m0_ m1_; clear hb; have hn0 := (blk_cell BN.out.1 0).trans (show _ = some (.slice A0_0 l0_0.length c0_0) from rfl); have hn1 := (blk_cell BN.out.1 1).trans (show _ = some (.slice A0_1 l0_1.length c0_1) from rfl); have hn2 := (blk_cell BN.out.1 2).trans (show _ = some (.slice A0_2 l0_2.length c0_2) from rfl); have hn3 := (blk_cell BN.out.1 3).trans (show _ = some (.slice A0_3 l0_3.length c0_3) from rfl); have hn4 := (blk_cell BN.out.1 4).trans (show _ = some (.slice A0_4 l0_4.length c0_4) from rfl); have hn5 := (blk_cell BN.out.1 5).trans (show _ = some (.slice A0_5 l0_5.length c0_5) from rfl)) | (go_at_call 95; (with_reducible refine (HBR.out _ HB.out).mono ?_); rintro e wi ⟨rfl, hb⟩; clear hn0 hn1 hn2 hn3 hn4 hn5; have m0_ := Aside0.mk (HB.out.trans (hb.mono HB.out.size)); have m1_ := Aside0.mk (And.intro (blk_below BN.out.1 hb) BN.out.2); clear HB BN; have HB := m0_; have BN := m1_; clear m0_ m1_; clear hb; have hn0 := (blk_cell BN.out.1 0).trans (show _ = some (.slice A0_0 l0_0.length c0_0) from rfl); have hn1 := (blk_cell BN.out.1 1).trans (show _ = some (.slice A0_1 l0_1.length c0_1) from rfl); have hn2 := (blk_cell BN.out.1 2).trans (show _ = some (.slice A0_2 l0_2.length c0_2) from rfl); have hn3 := (blk_cell BN.out.1 3).trans (show _ = some (.slice A0_3 l0_3.length c0_3) from rfl); have hn4 := (blk_cell BN.out.1 4).trans (show _ = some (.slice A0_4 l0_4.length c0_4) from rfl); have hn5 := (blk_cell BN.out.1 5).trans (show _ = some (.slice A0_5 l0_5.length c0_5) from rfl)))
                go_ret
                exact ⟨rfl, HB.out⟩
      ·have hz5 : decide ((l0_5.length : Int) > 6) = true := decide_eq_true (by omega)
       rw [if_neg (fun q => hg5 q.2.2.2)] at h
       obtain rfl := Option.some.inj h
       go_enter Try.func62, Try.ntmps62
       go_wp2_with (first | ((with_reducible refine gate_dst (N := 1) rfl ?_); refine box_event ?hg (N := 1) ?hd (cs := #[.slice A0_0 l0_0.length c0_0, .slice A0_1 l0_1.length c0_1, .slice A0_2 l0_2.length c0_2, .slice A0_3 l0_3.length c0_3, .slice A0_4 l0_4.length c0_4, .slice A0_5 l0_5.length c0_5]) (t := 38) ?hr ?_; (case hd => rfl); (case hg => rfl); (case hr => first | (go_simp; done) | (go_simp; rfl)); intro gn hgn wn hbox hbb; have BN := Aside0.mk (And.intro hbox (show w.heap.size ≤ gn by rw [hgn]; exact HB.out.size)); have m0_ := Aside0.mk (HB.out.trans (hbb.mono HB.out.size)); clear HB; have HB := m0_; clear m0_; clear hbb hbox hgn; have hn0 := (blk_cell BN.out.1 0).trans (show _ = some (.slice A0_0 l0_0.length c0_0) from rfl); have hn1 := (blk_cell BN.out.1 1).trans (show _ = some (.slice A0_1 l0_1.length c0_1) from rfl); have hn2 := (blk_cell BN.out.1 2).trans (show _ = some (.slice A0_2 l0_2.length c0_2) from rfl); have hn3 := (blk_cell BN.out.1 3).trans (show _ = some (.slice A0_3 l0_3.length c0_3) from rfl); have hn4 := (blk_cell BN.out.1 4).trans (show _ = some (.slice A0_4 l0_4.length c0_4) from rfl); have hn5 := (blk_cell BN.out.1 5).trans (show _ = some (.slice A0_5 l0_5.length c0_5) from rfl)) | (go_at_call 80; (with_reducible refine (impl_within.calls (l0_0.length : Int) 1 4 _ _ (within_is _ 1 4)).mono ?_); rintro e wi ⟨rfl, hd⟩; have hb := hd.below; clear hd; clear hn0 hn1 hn2 hn3 hn4 hn5; have m0_ := Aside0.mk (HB.out.trans (hb.mono HB.out.size)); have m1_ := Aside0.mk (And.intro (blk_below BN.out.1 hb) BN.out.2); clear HB BN; have HB := m0_; have BN := m1_; clear m0_ m1_; clear hb; have hn0 := (blk_cell BN.out.1 0).trans (show _ = some (.slice A0_0 l0_0.length c0_0) from rfl); have hn1 := (blk_cell BN.out.1 1).trans (show _ = some (.slice A0_1 l0_1.length c0_1) from rfl); have hn2 := (blk_cell BN.out.1 2).trans (show _ = some (.slice A0_2 l0_2.length c0_2) from rfl); have hn3 := (blk_cell BN.out.1 3).trans (show _ = some (.slice A0_3 l0_3.length c0_3) from rfl); have hn4 := (blk_cell BN.out.1 4).trans (show _ = some (.slice A0_4 l0_4.length c0_4) from rfl); have hn5 := (blk_cell BN.out.1 5).trans (show _ = some (.slice A0_5 l0_5.length c0_5) from rfl)))
       go_ret
       exact ⟨rfl, HB.out⟩
    ·have hz4 : decide ((l0_4.length : Int) > 12) = true := decide_eq_true (by omega)
     rw [if_neg (fun q => hg4 q.2.2.1)] at h
     obtain rfl := Option.some.inj h
     go_enter Try.func62, Try.ntmps62
     go_wp2_with (first | ((with_reducible refine gate_dst (N := 1) rfl ?_); refine box_event ?hg (N := 1) ?hd (cs := #[.slice A0_0 l0_0.length c0_0, .slice A0_1 l0_1.length c0_1, .slice A0_2 l0_2.length c0_2, .slice A0_3 l0_3.length c0_3, .slice A0_4 l0_4.length c0_4, .slice A0_5 l0_5.length c0_5]) (t := 38) ?hr ?_; (case hd => rfl); (case hg => rfl); (case hr => first | (go_simp; done) | (go_simp; rfl)); intro gn hgn wn hbox hbb; have BN := Aside0.mk (And.intro hbox (show w.heap.size ≤ gn by rw [hgn]; exact HB.out.size)); have m0_ := Aside0.mk (HB.out.trans (hbb.mono HB.out.size)); clear HB; have HB := m0_; clear m0_; clear hbb hbox hgn; have hn0 := (blk_cell BN.out.1 0).trans (show _ = some (.slice A0_0 l0_0.length c0_0) from rfl); have hn1 := (blk_cell BN.out.1 1).trans (show _ = some (.slice A0_1 l0_1.length c0_1) from rfl); have hn2 := (blk_cell BN.out.1 2).trans (show _ = some (.slice A0_2 l0_2.length c0_2) from rfl); have hn3 := (blk_cell BN.out.1 3).trans (show _ = some (.slice A0_3 l0_3.length c0_3) from rfl); have hn4 := (blk_cell BN.out.1 4).trans (show _ = some (.slice A0_4 l0_4.length c0_4) from rfl); have hn5 := (blk_cell BN.out.1 5).trans (show _ = some (.slice A0_5 l0_5.length c0_5) from rfl)) | (go_at_call 80; (with_reducible refine (impl_within.calls (l0_0.length : Int) 1 4 _ _ (within_is _ 1 4)).mono ?_); rintro e wi ⟨rfl, hd⟩; have hb := hd.below; clear hd; clear hn0 hn1 hn2 hn3 hn4 hn5; have m0_ := Aside0.mk (HB.out.trans (hb.mono HB.out.size)); have m1_ := Aside0.mk (And.intro (blk_below BN.out.1 hb) BN.out.2); clear HB BN; have HB := m0_; have BN := m1_; clear m0_ m1_; clear hb; have hn0 := (blk_cell BN.out.1 0).trans (show _ = some (.slice A0_0 l0_0.length c0_0) from rfl); have hn1 := (blk_cell BN.out.1 1).trans (show _ = some (.slice A0_1 l0_1.length c0_1) from rfl); have hn2 := (blk_cell BN.out.1 2).trans (show _ = some (.slice A0_2 l0_2.length c0_2) from rfl); have hn3 := (blk_cell BN.out.1 3).trans (show _ = some (.slice A0_3 l0_3.length c0_3) from rfl); have hn4 := (blk_cell BN.out.1 4).trans (show _ = some (.slice A0_4 l0_4.length c0_4) from rfl); have hn5 := (blk_cell BN.out.1 5).trans (show _ = some (.slice A0_5 l0_5.length c0_5) from rfl)))
     go_ret
     exact ⟨rfl, HB.out⟩
  ·have hz1 : decide ((l0_1.length : Int) > 6) = true := decide_eq_true (by omega)
   rw [if_neg (fun q => hg1 q.2.1)] at h
   obtain rfl := Option.some.inj h
   go_enter Try.func62, Try.ntmps62
   go_wp2_with (first | ((with_reducible refine gate_dst (N := 1) rfl ?_); refine box_event ?hg (N := 1) ?hd (cs := #[.slice A0_0 l0_0.length c0_0, .slice A0_1 l0_1.length c0_1, .slice A0_2 l0_2.length c0_2, .slice A0_3 l0_3.length c0_3, .slice A0_4 l0_4.length c0_4, .slice A0_5 l0_5.length c0_5]) (t := 38) ?hr ?_; (case hd => rfl); (case hg => rfl); (case hr => first | (go_simp; done) | (go_simp; rfl)); intro gn hgn wn hbox hbb; have BN := Aside0.mk (And.intro hbox (show w.heap.size ≤ gn by rw [hgn]; exact HB.out.size)); have m0_ := Aside0.mk (HB.out.trans (hbb.mono HB.out.size)); clear HB; have HB := m0_; clear m0_; clear hbb hbox hgn; have hn0 := (blk_cell BN.out.1 0).trans (show _ = some (.slice A0_0 l0_0.length c0_0) from rfl); have hn1 := (blk_cell BN.out.1 1).trans (show _ = some (.slice A0_1 l0_1.length c0_1) from rfl); have hn2 := (blk_cell BN.out.1 2).trans (show _ = some (.slice A0_2 l0_2.length c0_2) from rfl); have hn3 := (blk_cell BN.out.1 3).trans (show _ = some (.slice A0_3 l0_3.length c0_3) from rfl); have hn4 := (blk_cell BN.out.1 4).trans (show _ = some (.slice A0_4 l0_4.length c0_4) from rfl); have hn5 := (blk_cell BN.out.1 5).trans (show _ = some (.slice A0_5 l0_5.length c0_5) from rfl)) | (go_at_call 80; (with_reducible refine (impl_within.calls (l0_0.length : Int) 1 4 _ _ (within_is _ 1 4)).mono ?_); rintro e wi ⟨rfl, hd⟩; have hb := hd.below; clear hd; clear hn0 hn1 hn2 hn3 hn4 hn5; have m0_ := Aside0.mk (HB.out.trans (hb.mono HB.out.size)); have m1_ := Aside0.mk (And.intro (blk_below BN.out.1 hb) BN.out.2); clear HB BN; have HB := m0_; have BN := m1_; clear m0_ m1_; clear hb; have hn0 := (blk_cell BN.out.1 0).trans (show _ = some (.slice A0_0 l0_0.length c0_0) from rfl); have hn1 := (blk_cell BN.out.1 1).trans (show _ = some (.slice A0_1 l0_1.length c0_1) from rfl); have hn2 := (blk_cell BN.out.1 2).trans (show _ = some (.slice A0_2 l0_2.length c0_2) from rfl); have hn3 := (blk_cell BN.out.1 3).trans (show _ = some (.slice A0_3 l0_3.length c0_3) from rfl); have hn4 := (blk_cell BN.out.1 4).trans (show _ = some (.slice A0_4 l0_4.length c0_4) from rfl); have hn5 := (blk_cell BN.out.1 5).trans (show _ = some (.slice A0_5 l0_5.length c0_5) from rfl)))
   go_ret
   exact ⟨rfl, HB.out⟩
 ·have hg0b : inB l0_0.length 1 4 = false := Bool.eq_false_iff.2 hg0
  rw [if_neg (fun q => hg0 q.1)] at h
  obtain rfl := Option.some.inj h
  go_enter Try.func62, Try.ntmps62
  go_wp2_with (first | ((with_reducible refine gate_dst (N := 1) rfl ?_); refine box_event ?hg (N := 1) ?hd (cs := #[.slice A0_0 l0_0.length c0_0, .slice A0_1 l0_1.length c0_1, .slice A0_2 l0_2.length c0_2, .slice A0_3 l0_3.length c0_3, .slice A0_4 l0_4.length c0_4, .slice A0_5 l0_5.length c0_5]) (t := 38) ?hr ?_; (case hd => rfl); (case hg => rfl); (case hr => first | (go_simp; done) | (go_simp; rfl)); intro gn hgn wn hbox hbb; have BN := Aside0.mk (And.intro hbox (show w.heap.size ≤ gn by rw [hgn]; exact HB.out.size)); have m0_ := Aside0.mk (HB.out.trans (hbb.mono HB.out.size)); clear HB; have HB := m0_; clear m0_; clear hbb hbox hgn; have hn0 := (blk_cell BN.out.1 0).trans (show _ = some (.slice A0_0 l0_0.length c0_0) from rfl); have hn1 := (blk_cell BN.out.1 1).trans (show _ = some (.slice A0_1 l0_1.length c0_1) from rfl); have hn2 := (blk_cell BN.out.1 2).trans (show _ = some (.slice A0_2 l0_2.length c0_2) from rfl); have hn3 := (blk_cell BN.out.1 3).trans (show _ = some (.slice A0_3 l0_3.length c0_3) from rfl); have hn4 := (blk_cell BN.out.1 4).trans (show _ = some (.slice A0_4 l0_4.length c0_4) from rfl); have hn5 := (blk_cell BN.out.1 5).trans (show _ = some (.slice A0_5 l0_5.length c0_5) from rfl)) | (go_at_call 80; (with_reducible refine (impl_within.calls (l0_0.length : Int) 1 4 _ _ (within_is _ 1 4)).mono ?_); rintro e wi ⟨rfl, hd⟩; have hb := hd.below; clear hd; clear hn0 hn1 hn2 hn3 hn4 hn5; have m0_ := Aside0.mk (HB.out.trans (hb.mono HB.out.size)); have m1_ := Aside0.mk (And.intro (blk_below BN.out.1 hb) BN.out.2); clear HB BN; have HB := m0_; have BN := m1_; clear m0_ m1_; clear hb; have hn0 := (blk_cell BN.out.1 0).trans (show _ = some (.slice A0_0 l0_0.length c0_0) from rfl); have hn1 := (blk_cell BN.out.1 1).trans (show _ = some (.slice A0_1 l0_1.length c0_1) from rfl); have hn2 := (blk_cell BN.out.1 2).trans (show _ = some (.slice A0_2 l0_2.length c0_2) from rfl); have hn3 := (blk_cell BN.out.1 3).trans (show _ = some (.slice A0_3 l0_3.length c0_3) from rfl); have hn4 := (blk_cell BN.out.1 4).trans (show _ = some (.slice A0_4 l0_4.length c0_4) from rfl); have hn5 := (blk_cell BN.out.1 5).trans (show _ = some (.slice A0_5 l0_5.length c0_5) from rfl)))
  go_ret
  exact ⟨rfl, HB.out⟩
end Go.Proofs.Ytgibacfgjmdjdaa.PFnExactNeighbours
end
section
namespace Go.Proofs.Ytgibacfgjmdjdaa.PFnExactNeighbours
open Go.RowKit Go.Proofs.YtgibacfgjmdjdaaW.PrintWords Go.Proofs.YtgibacfgjmdjdaaW.PrintLast Go.Proofs.YtgibacfgjmdjdaaW.PrintMore
attribute [local go_sem] max2_int min2_int max_two min_two max_three min_three max_four min_four   -- for this text's walks alone
set_option linter.unusedVariables false
set_option linter.unusedSimpArgs false
def spec_l06Rising.l0 : Nat → List Int → Int → Int → Option (Bool)
 | 0, _, _, _ => none
 | k + 1, x0, x1, x5 => if x5 < (x0.length : Int) then (if 0 ≤ x5 then ((spec_l01In.f (rd x0 x5) 0 (wrap64 (x1 - 1))).bind fun t204 => (if t204 = true then (if x5 > 0 then (if 0 ≤ (wrap64 (x5 - 1)) then (if (wrap64 (x5 - 1)) < (x0.length : Int) then (if (rd x0 (wrap64 (x5 - 1))) ≥ (rd x0 x5) then (some false) else (spec_l06Rising.l0 k x0 x1 (wrap64 (x5 + 1)))) else (none)) else (none)) else (spec_l06Rising.l0 k x0 x1 (wrap64 (x5 + 1)))) else (some false))) else (none)) else (some true)
def spec_l06Rising.f (k : Nat) (l0 : List Int) (a1 : Int) : Option (Bool) := spec_l06Rising.l0 k l0 a1 0
set_option maxHeartbeats 8000000 in
set_option maxRecDepth 100000 in
theorem spec_l06Rising.calls (k : Nat) (A0 : Option Addr) (c0 : Nat) (l0 : List Int) (a1 : Int) (r : Bool) (w : World) (hr0 : Kd.C (Kd.int .i64) w A0 l0.length l0) (hc0 : l0.length ≤ c0) (h : spec_l06Rising.f k l0 a1 = some r) :
  Calls Try.prog 58 #[.slice A0 l0.length c0, .int .i64 a1] w fun e w' => e = .returned (.bool r) ∧ Drawn0 w w' := by
 have HR0 := Aside0.mk hr0
 have HC0 := Aside0.mk hc0
 clear hr0 hc0
 have H : (spec_l06Rising.l0 k l0 a1 0) = some r := h
 clear h
 have H' := Aside0.mk H
 clear H
 go_enter Try.func58, Try.ntmps58
 go_wp2
 repeat (go_quiet (fail); try go_wp2)
 go_loopg [5] k (fun kq v5 w' => ∃ (x5_1 : Int), v5 = .int .i64 x5_1 ∧ Aside0 (spec_l06Rising.l0 kq l0 a1 x5_1 = some r) ∧ Aside0 (kq ≤ k) ∧ Drawn0 w w')
 case atStart => exact ⟨(0), (by first | rfl | (simp; done) | (simp [*]; done)), H', ⟨Nat.le_refl _⟩, by repeat (first | exact Drawn0.refl _ | apply Drawn0.step)⟩
 case round =>
  clear H'
  try clear p2
  obtain ⟨x5_1, rfl, HA, HK1, ⟨m1, rfl⟩⟩ := hrel
  cases gk with
  | zero => exact absurd HA.out (by simp [spec_l06Rising.l0])
  | succ k1 =>
   have H := HA.out
   clear HA
   simp only [spec_l06Rising.l0] at H
   by_cases c3 : x5_1 < (l0.length : Int)
   ·rw [if_pos c3] at H
    have c3b0 : decide (x5_1 < (l0.length : Int)) = true := decide_eq_true c3
    clear c3
    by_cases c4 : 0 ≤ x5_1
    ·rw [if_pos c4] at H
     have c4b0 : decide (0 ≤ x5_1) = true := decide_eq_true c4
     clear c4
     replace H := Option.bind_eq_some_iff.mp H
     obtain ⟨t204, A50, H⟩ := H
     replace H : (if t204 = true then (if x5_1 > 0 then (if 0 ≤ (wrap64 (x5_1 - 1)) then (if (wrap64 (x5_1 - 1)) < (l0.length : Int) then (if (rd l0 (wrap64 (x5_1 - 1))) ≥ (rd l0 x5_1) then (some false) else (spec_l06Rising.l0 k1 l0 a1 (wrap64 (x5_1 + 1)))) else (none)) else (none)) else (spec_l06Rising.l0 k1 l0 a1 (wrap64 (x5_1 + 1)))) else (some false)) = some r := H
     have A5 := Aside0.mk A50
     clear A50
     by_cases c6 : t204 = true
     ·subst c6
      have H1 : (if x5_1 > 0 then (if 0 ≤ (wrap64 (x5_1 - 1)) then (if (wrap64 (x5_1 - 1)) < (l0.length : Int) then (if (rd l0 (wrap64 (x5_1 - 1))) ≥ (rd l0 x5_1) then (some false) else (spec_l06Rising.l0 k1 l0 a1 (wrap64 (x5_1 + 1)))) else (none)) else (none)) else (spec_l06Rising.l0 k1 l0 a1 (wrap64 (x5_1 + 1)))) = some r := by rw [if_pos rfl] at H; exact H
      clear H
      have H := H1
      clear H1
      by_cases c7 : x5_1 > 0
      ·rw [if_pos c7] at H
       have c7b0 : decide (0 < x5_1) = true := decide_eq_true c7
       clear c7
       obtain ⟨ji8, hji8⟩ : ∃ j_ : Int, (wrap64 (x5_1 - 1)) = j_ := ⟨_, rfl⟩
       replace H : (if 0 ≤ (ji8) then (if (ji8) < (l0.length : Int) then (if (rd l0 (ji8)) ≥ (rd l0 x5_1) then (some false) else (spec_l06Rising.l0 k1 l0 a1 (wrap64 (x5_1 + 1)))) else (none)) else (none)) = some r := by first | (rw [hji8] at H; exact H) | (simp only [hji8] at H ⊢; exact H)
       (try rw [hji8] at A5)
       have hji8w : (IntKind.i64.wrap (x5_1 - 1)) = ji8 := (i64_w _).trans hji8
       by_cases c9 : 0 ≤ (ji8)
       ·rw [if_pos c9] at H
        have c9b0 : decide (0 ≤ (ji8)) = true := decide_eq_true c9
        clear c9
        by_cases c10 : (ji8) < (l0.length : Int)
        ·rw [if_pos c10] at H
         have c10b0 : decide ((ji8) < (l0.length : Int)) = true := decide_eq_true c10
         clear c10
         by_cases c11 : (rd l0 (ji8)) ≥ (rd l0 x5_1)
         ·rw [if_pos c11] at H
          have c11b0 : decide ((rd l0 x5_1) ≤ (rd l0 (ji8))) = true := decide_eq_true c11
          clear c11
          obtain rfl := Option.some.inj H
          have p203 : 0 ≤ (x5_1 : Int) := of_decide_eq_true (by first | (with_reducible assumption) | assumption)
          have q203 : x5_1 < (l0.length : Int) := of_decide_eq_true (by first | (with_reducible assumption) | assumption)
          obtain ⟨ad203, e203, hx203_0⟩ := Kd.at_int HR0.out x5_1 p203 q203
          cases e203
          replace p203 := eq_true p203
          replace q203 := eq_true q203
          have p205 : 0 ≤ ((ji8) : Int) := of_decide_eq_true (by first | (with_reducible assumption) | assumption)
          have q205 : (ji8) < (l0.length : Int) := of_decide_eq_true (by first | (with_reducible assumption) | assumption)
          obtain ⟨ad205, e205, hx205_0⟩ := Kd.at_int HR0.out (ji8) p205 q205
          obtain rfl : ad203 = ad205 := (by injection e205)
          replace p205 := eq_true p205
          replace q205 := eq_true q205
          go_wp2_with (first | (go_at_call 40; (with_reducible refine (spec_l01In.calls (rd l0 x5_1) 0 (wrap64 (a1 - 1)) true _ A5.out).mono ?_); rintro e w' ⟨rfl, ⟨nd, rfl⟩⟩; (try first | exact ⟨rfl, _, World.drewN_drewN _ _ _⟩ | exact ⟨rfl, _, Eq.trans (World.drewN_drewN _ _ _) (congrArg (World.drewN _) (Nat.add_assoc _ _ _))⟩)))
          repeat (go_quiet (first | (go_at_call 40; (with_reducible refine (spec_l01In.calls (rd l0 x5_1) 0 (wrap64 (a1 - 1)) true _ A5.out).mono ?_); rintro e w' ⟨rfl, ⟨nd, rfl⟩⟩; (try first | exact ⟨rfl, _, World.drewN_drewN _ _ _⟩ | exact ⟨rfl, _, Eq.trans (World.drewN_drewN _ _ _) (congrArg (World.drewN _) (Nat.add_assoc _ _ _))⟩))); try go_wp2_with (first | (go_at_call 40; (with_reducible refine (spec_l01In.calls (rd l0 x5_1) 0 (wrap64 (a1 - 1)) true _ A5.out).mono ?_); rintro e w' ⟨rfl, ⟨nd, rfl⟩⟩; (try first | exact ⟨rfl, _, World.drewN_drewN _ _ _⟩ | exact ⟨rfl, _, Eq.trans (World.drewN_drewN _ _ _) (congrArg (World.drewN _) (Nat.add_assoc _ _ _))⟩))))
          go_ret
          exact ⟨by first | rfl | (simp; done) | (simp only [← hji8] <;> (first | rfl | simp)) | (simp [*]; done), by repeat (first | exact Drawn0.refl _ | apply Drawn0.step)⟩
         ·rw [if_neg c11] at H
          have c11b0 : decide ((rd l0 x5_1) ≤ (rd l0 (ji8))) = false := decide_eq_false c11
          clear c11
          have H' := Aside0.mk H
          clear H
          have p203 : 0 ≤ (x5_1 : Int) := of_decide_eq_true (by first | (with_reducible assumption) | assumption)
          have q203 : x5_1 < (l0.length : Int) := of_decide_eq_true (by first | (with_reducible assumption) | assumption)
          obtain ⟨ad203, e203, hx203_0⟩ := Kd.at_int HR0.out x5_1 p203 q203
          cases e203
          replace p203 := eq_true p203
          replace q203 := eq_true q203
          have p205 : 0 ≤ ((ji8) : Int) := of_decide_eq_true (by first | (with_reducible assumption) | assumption)
          have q205 : (ji8) < (l0.length : Int) := of_decide_eq_true (by first | (with_reducible assumption) | assumption)
          obtain ⟨ad205, e205, hx205_0⟩ := Kd.at_int HR0.out (ji8) p205 q205
          obtain rfl : ad203 = ad205 := (by injection e205)
          replace p205 := eq_true p205
          replace q205 := eq_true q205
          go_wp2_with (first | (go_at_call 40; (with_reducible refine (spec_l01In.calls (rd l0 x5_1) 0 (wrap64 (a1 - 1)) true _ A5.out).mono ?_); rintro e w' ⟨rfl, ⟨nd, rfl⟩⟩; (try first | exact ⟨rfl, _, World.drewN_drewN _ _ _⟩ | exact ⟨rfl, _, Eq.trans (World.drewN_drewN _ _ _) (congrArg (World.drewN _) (Nat.add_assoc _ _ _))⟩)))
          repeat (go_quiet (first | (go_at_call 40; (with_reducible refine (spec_l01In.calls (rd l0 x5_1) 0 (wrap64 (a1 - 1)) true _ A5.out).mono ?_); rintro e w' ⟨rfl, ⟨nd, rfl⟩⟩; (try first | exact ⟨rfl, _, World.drewN_drewN _ _ _⟩ | exact ⟨rfl, _, Eq.trans (World.drewN_drewN _ _ _) (congrArg (World.drewN _) (Nat.add_assoc _ _ _))⟩))); try go_wp2_with (first | (go_at_call 40; (with_reducible refine (spec_l01In.calls (rd l0 x5_1) 0 (wrap64 (a1 - 1)) true _ A5.out).mono ?_); rintro e w' ⟨rfl, ⟨nd, rfl⟩⟩; (try first | exact ⟨rfl, _, World.drewN_drewN _ _ _⟩ | exact ⟨rfl, _, Eq.trans (World.drewN_drewN _ _ _) (congrArg (World.drewN _) (Nat.add_assoc _ _ _))⟩))))
          go_roundg k1
          case measure => have := HK1.out; omega
          case rel => exact ⟨(wrap64 (x5_1 + 1)), (by first | rfl | (simp; done) | (simp [*]; done)), H', ⟨by have := HK1.out; omega⟩, by repeat (first | exact Drawn0.refl _ | apply Drawn0.step)⟩
        ·rw [if_neg c10] at H
         exact absurd H (by simp)
       ·rw [if_neg c9] at H
        exact absurd H (by simp)
      ·rw [if_neg c7] at H
       have c7b0 : decide (0 < x5_1) = false := decide_eq_false c7
       clear c7
       have H' := Aside0.mk H
       clear H
       have p203 : 0 ≤ (x5_1 : Int) := of_decide_eq_true (by first | (with_reducible assumption) | assumption)
       have q203 : x5_1 < (l0.length : Int) := of_decide_eq_true (by first | (with_reducible assumption) | assumption)
       obtain ⟨ad203, e203, hx203_0⟩ := Kd.at_int HR0.out x5_1 p203 q203
       cases e203
       replace p203 := eq_true p203
       replace q203 := eq_true q203
       go_wp2_with (first | (go_at_call 40; (with_reducible refine (spec_l01In.calls (rd l0 x5_1) 0 (wrap64 (a1 - 1)) true _ A5.out).mono ?_); rintro e w' ⟨rfl, ⟨nd, rfl⟩⟩; (try first | exact ⟨rfl, _, World.drewN_drewN _ _ _⟩ | exact ⟨rfl, _, Eq.trans (World.drewN_drewN _ _ _) (congrArg (World.drewN _) (Nat.add_assoc _ _ _))⟩)))
       repeat (go_quiet (first | (go_at_call 40; (with_reducible refine (spec_l01In.calls (rd l0 x5_1) 0 (wrap64 (a1 - 1)) true _ A5.out).mono ?_); rintro e w' ⟨rfl, ⟨nd, rfl⟩⟩; (try first | exact ⟨rfl, _, World.drewN_drewN _ _ _⟩ | exact ⟨rfl, _, Eq.trans (World.drewN_drewN _ _ _) (congrArg (World.drewN _) (Nat.add_assoc _ _ _))⟩))); try go_wp2_with (first | (go_at_call 40; (with_reducible refine (spec_l01In.calls (rd l0 x5_1) 0 (wrap64 (a1 - 1)) true _ A5.out).mono ?_); rintro e w' ⟨rfl, ⟨nd, rfl⟩⟩; (try first | exact ⟨rfl, _, World.drewN_drewN _ _ _⟩ | exact ⟨rfl, _, Eq.trans (World.drewN_drewN _ _ _) (congrArg (World.drewN _) (Nat.add_assoc _ _ _))⟩))))
       go_roundg k1
       case measure => have := HK1.out; omega
       case rel => exact ⟨(wrap64 (x5_1 + 1)), (by first | rfl | (simp; done) | (simp [*]; done)), H', ⟨by have := HK1.out; omega⟩, by repeat (first | exact Drawn0.refl _ | apply Drawn0.step)⟩
     ·replace c6 := Bool.eq_false_iff.mpr c6
      subst c6
      have H1 : (some false) = some r := by rw [if_neg (show ¬ (false = true) by decide)] at H; exact H
      clear H
      have H := H1
      clear H1
      obtain rfl := Option.some.inj H
      have p203 : 0 ≤ (x5_1 : Int) := of_decide_eq_true (by first | (with_reducible assumption) | assumption)
      have q203 : x5_1 < (l0.length : Int) := of_decide_eq_true (by first | (with_reducible assumption) | assumption)
      obtain ⟨ad203, e203, hx203_0⟩ := Kd.at_int HR0.out x5_1 p203 q203
      cases e203
      replace p203 := eq_true p203
      replace q203 := eq_true q203
      go_wp2_with (first | (go_at_call 40; (with_reducible refine (spec_l01In.calls (rd l0 x5_1) 0 (wrap64 (a1 - 1)) false _ A5.out).mono ?_); rintro e w' ⟨rfl, ⟨nd, rfl⟩⟩; (try first | exact ⟨rfl, _, World.drewN_drewN _ _ _⟩ | exact ⟨rfl, _, Eq.trans (World.drewN_drewN _ _ _) (congrArg (World.drewN _) (Nat.add_assoc _ _ _))⟩)))
      repeat (go_quiet (first | (go_at_call 40; (with_reducible refine (spec_l01In.calls (rd l0 x5_1) 0 (wrap64 (a1 - 1)) false _ A5.out).mono ?_); rintro e w' ⟨rfl, ⟨nd, rfl⟩⟩; (try first | exact ⟨rfl, _, World.drewN_drewN _ _ _⟩ | exact ⟨rfl, _, Eq.trans (World.drewN_drewN _ _ _) (congrArg (World.drewN _) (Nat.add_assoc _ _ _))⟩))); try go_wp2_with (first | (go_at_call 40; (with_reducible refine (spec_l01In.calls (rd l0 x5_1) 0 (wrap64 (a1 - 1)) false _ A5.out).mono ?_); rintro e w' ⟨rfl, ⟨nd, rfl⟩⟩; (try first | exact ⟨rfl, _, World.drewN_drewN _ _ _⟩ | exact ⟨rfl, _, Eq.trans (World.drewN_drewN _ _ _) (congrArg (World.drewN _) (Nat.add_assoc _ _ _))⟩))))
      go_ret
      exact ⟨by first | rfl | (simp; done) | (simp [*]; done), by repeat (first | exact Drawn0.refl _ | apply Drawn0.step)⟩
    ·rw [if_neg c4] at H
     exact absurd H (by simp)
   ·rw [if_neg c3] at H
    have c3b0 : decide (x5_1 < (l0.length : Int)) = false := decide_eq_false c3
    clear c3
    obtain rfl := Option.some.inj H
    go_wp2
    repeat (go_quiet (fail); try go_wp2)
    go_ret
    exact ⟨by first | rfl | (simp; done) | (simp [*]; done), by repeat (first | exact Drawn0.refl _ | apply Drawn0.step)⟩
def spec_l00Letter.f (a0 : Int) : Option (Bool) := if a0 ≥ 97 then (if a0 ≤ 122 then (some true) else (if a0 ≥ 65 then (if a0 ≤ 90 then (some true) else (some (a0 == 95))) else (some (a0 == 95)))) else (if a0 ≥ 65 then (if a0 ≤ 90 then (some true) else (some (a0 == 95))) else (some (a0 == 95)))
set_option maxHeartbeats 8000000 in
set_option maxRecDepth 100000 in
theorem spec_l00Letter.calls (a0 : Int) (r : Bool) (w : World) (h : spec_l00Letter.f a0 = some r) :
  Calls Try.prog 108 #[.int .u8 a0] w fun e w' => e = .returned (.bool r) ∧ Drawn0 w w' := by
 have H : (if a0 ≥ 97 then (if a0 ≤ 122 then (some true) else (if a0 ≥ 65 then (if a0 ≤ 90 then (some true) else (some (a0 == 95))) else (some (a0 == 95)))) else (if a0 ≥ 65 then (if a0 ≤ 90 then (some true) else (some (a0 == 95))) else (some (a0 == 95)))) = some r := h
 clear h
 by_cases c2 : a0 ≥ 97
 ·rw [if_pos c2] at H
  have c2b0 : decide (97 ≤ a0) = true := decide_eq_true c2
  clear c2
  by_cases c3 : a0 ≤ 122
  ·rw [if_pos c3] at H
   have c3b0 : decide (a0 ≤ 122) = true := decide_eq_true c3
   clear c3
   obtain rfl := Option.some.inj H
   go_enter Try.func108, Try.ntmps108
   go_wp2
   go_ret
   exact ⟨by first | rfl | (simp; done) | (simp [*]; done), by repeat (first | exact Drawn0.refl _ | apply Drawn0.step)⟩
  ·rw [if_neg c3] at H
   have c3b0 : decide (a0 ≤ 122) = false := decide_eq_false c3
   clear c3
   by_cases c4 : a0 ≥ 65
   ·rw [if_pos c4] at H
    have c4b0 : decide (65 ≤ a0) = true := decide_eq_true c4
    clear c4
    by_cases c5 : a0 ≤ 90
    ·rw [if_pos c5] at H
     have c5b0 : decide (a0 ≤ 90) = true := decide_eq_true c5
     clear c5
     obtain rfl := Option.some.inj H
     go_enter Try.func108, Try.ntmps108
     go_wp2
     go_ret
     exact ⟨by first | rfl | (simp; done) | (simp [*]; done), by repeat (first | exact Drawn0.refl _ | apply Drawn0.step)⟩
    ·rw [if_neg c5] at H
     have c5b0 : decide (a0 ≤ 90) = false := decide_eq_false c5
     clear c5
     obtain rfl := Option.some.inj H
     go_enter Try.func108, Try.ntmps108
     go_wp2
     go_ret
     exact ⟨by first | rfl | (simp; done) | (simp [*]; done), by repeat (first | exact Drawn0.refl _ | apply Drawn0.step)⟩
   ·rw [if_neg c4] at H
    have c4b0 : decide (65 ≤ a0) = false := decide_eq_false c4
    clear c4
    obtain rfl := Option.some.inj H
    go_enter Try.func108, Try.ntmps108
    go_wp2
    go_ret
    exact ⟨by first | rfl | (simp; done) | (simp [*]; done), by repeat (first | exact Drawn0.refl _ | apply Drawn0.step)⟩
 ·rw [if_neg c2] at H
  have c2b0 : decide (97 ≤ a0) = false := decide_eq_false c2
  clear c2
  by_cases c6 : a0 ≥ 65
  ·rw [if_pos c6] at H
   have c6b0 : decide (65 ≤ a0) = true := decide_eq_true c6
   clear c6
   by_cases c7 : a0 ≤ 90
   ·rw [if_pos c7] at H
    have c7b0 : decide (a0 ≤ 90) = true := decide_eq_true c7
    clear c7
    obtain rfl := Option.some.inj H
    go_enter Try.func108, Try.ntmps108
    go_wp2
    go_ret
    exact ⟨by first | rfl | (simp; done) | (simp [*]; done), by repeat (first | exact Drawn0.refl _ | apply Drawn0.step)⟩
   ·rw [if_neg c7] at H
    have c7b0 : decide (a0 ≤ 90) = false := decide_eq_false c7
    clear c7
    obtain rfl := Option.some.inj H
    go_enter Try.func108, Try.ntmps108
    go_wp2
    go_ret
    exact ⟨by first | rfl | (simp; done) | (simp [*]; done), by repeat (first | exact Drawn0.refl _ | apply Drawn0.step)⟩
  ·rw [if_neg c6] at H
   have c6b0 : decide (65 ≤ a0) = false := decide_eq_false c6
   clear c6
   obtain rfl := Option.some.inj H
   go_enter Try.func108, Try.ntmps108
   go_wp2
   go_ret
   exact ⟨by first | rfl | (simp; done) | (simp [*]; done), by repeat (first | exact Drawn0.refl _ | apply Drawn0.step)⟩
def spec_l00Digit.f (a0 : Int) : Option (Bool) := if a0 ≥ 48 then (some (decide (a0 ≤ 57))) else (some false)
set_option maxHeartbeats 8000000 in
set_option maxRecDepth 100000 in
theorem spec_l00Digit.calls (a0 : Int) (r : Bool) (w : World) (h : spec_l00Digit.f a0 = some r) :
  Calls Try.prog 109 #[.int .u8 a0] w fun e w' => e = .returned (.bool r) ∧ Drawn0 w w' := by
 have H : (if a0 ≥ 48 then (some (decide (a0 ≤ 57))) else (some false)) = some r := h
 clear h
 by_cases c2 : a0 ≥ 48
 ·rw [if_pos c2] at H
  have c2b0 : decide (48 ≤ a0) = true := decide_eq_true c2
  clear c2
  obtain rfl := Option.some.inj H
  go_enter Try.func109, Try.ntmps109
  go_wp2
  go_ret
  exact ⟨by first | rfl | (simp; done) | (simp [*]; done), by repeat (first | exact Drawn0.refl _ | apply Drawn0.step)⟩
 ·rw [if_neg c2] at H
  have c2b0 : decide (48 ≤ a0) = false := decide_eq_false c2
  clear c2
  obtain rfl := Option.some.inj H
  go_enter Try.func109, Try.ntmps109
  go_wp2
  go_ret
  exact ⟨by first | rfl | (simp; done) | (simp [*]; done), by repeat (first | exact Drawn0.refl _ | apply Drawn0.step)⟩
mutual
def spec_l00Word.j0 : Nat → ByteArray → Bool → Option (Bool)
 | 0, _, _ => none
 | k + 1, x0, x17 => if x17 = true then (some false) else (spec_l00Word.l0 k x0 1)
def spec_l00Word.l0 : Nat → ByteArray → Int → Option (Bool)
 | 0, _, _ => none
 | k + 1, x0, x3 => if x3 < (x0.size : Int) then (if 0 ≤ x3 then ((spec_l00Letter.f (bt x0 x3)).bind fun t235 => (if t235 = true then (spec_l00Word.l0 k x0 (wrap64 (x3 + 1))) else ((spec_l00Digit.f (bt x0 x3)).bind fun t236 => (if t236 = true then (spec_l00Word.l0 k x0 (wrap64 (x3 + 1))) else (some false))))) else (none)) else (some true)
end
def spec_l00Word.f (k : Nat) (a0 : ByteArray) : Option (Bool) := if (a0.size : Int) < 1 then (spec_l00Word.j0 k a0 true) else (if (a0.size : Int) > 40 then (spec_l00Word.j0 k a0 true) else (if 0 < (a0.size : Int) then ((spec_l00Letter.f (bt a0 0)).bind fun t234 => (spec_l00Word.j0 k a0 (!t234))) else (none)))
set_option maxHeartbeats 8000000 in
set_option maxRecDepth 100000 in
theorem spec_l00Word.calls (k : Nat) (a0 : ByteArray) (r : Bool) (w : World) (h : spec_l00Word.f k a0 = some r) :
  Calls Try.prog 86 #[.string a0] w fun e w' => e = .returned (.bool r) ∧ Drawn0 w w' := by
 have H : (if (a0.size : Int) < 1 then (spec_l00Word.j0 k a0 true) else (if (a0.size : Int) > 40 then (spec_l00Word.j0 k a0 true) else (if 0 < (a0.size : Int) then ((spec_l00Letter.f (bt a0 0)).bind fun t234 => (spec_l00Word.j0 k a0 (!t234))) else (none)))) = some r := h
 clear h
 have HC2 := Aside0.mk H
 clear H
 go_enter Try.func86, Try.ntmps86
 go_upto_region 1 with (fail)
 go_cut [17] (fun v17 wc => ∃ (kq : Nat) (x17_1 : Bool), v17 = .bool x17_1 ∧ Aside0 (spec_l00Word.j0 kq a0 x17_1 = some r) ∧ Aside0 (kq ≤ k) ∧ Drawn0 w wc)
 case first =>
  have H := HC2.out
  clear HC2
  by_cases c3 : (a0.size : Int) < 1
  ·rw [if_pos c3] at H
   have c3b0 : decide ((a0.size : Int) < 1) = true := decide_eq_true c3
   have c3b1 : decide (a0.size < 1) = true := decide_eq_true (by omega)
   clear c3
   (first | rw [c3b0] | (simp only [i64_w, i32_w]; rw [c3b0]) | skip)
   have H' := Aside0.mk H
   clear H
   go_wp2
   go_meet
   case rel => exact ⟨_, (true), (by first | rfl | (simp; done) | (simp [*]; done)), H', ⟨by first | omega | exact Nat.le_refl _⟩, by repeat (first | exact Drawn0.refl _ | apply Drawn0.step)⟩
  ·rw [if_neg c3] at H
   have c3b0 : decide ((a0.size : Int) < 1) = false := decide_eq_false c3
   have c3b1 : decide (a0.size < 1) = false := decide_eq_false (by omega)
   clear c3
   (first | rw [c3b0] | (simp only [i64_w, i32_w]; rw [c3b0]) | skip)
   by_cases c4 : (a0.size : Int) > 40
   ·rw [if_pos c4] at H
    have c4b0 : decide (40 < (a0.size : Int)) = true := decide_eq_true c4
    have c4b1 : decide (40 < a0.size) = true := decide_eq_true (by omega)
    clear c4
    have H' := Aside0.mk H
    clear H
    go_wp2
    go_meet
    case rel => exact ⟨_, (true), (by first | rfl | (simp; done) | (simp [*]; done)), H', ⟨by first | omega | exact Nat.le_refl _⟩, by repeat (first | exact Drawn0.refl _ | apply Drawn0.step)⟩
   ·rw [if_neg c4] at H
    have c4b0 : decide (40 < (a0.size : Int)) = false := decide_eq_false c4
    have c4b1 : decide (40 < a0.size) = false := decide_eq_false (by omega)
    clear c4
    by_cases c5 : 0 < (a0.size : Int)
    ·rw [if_pos c5] at H
     have c5b0 : decide (0 < (a0.size : Int)) = true := decide_eq_true c5
     have c5b1 : decide (0 < a0.size) = true := decide_eq_true (by omega)
     clear c5
     replace H := Option.bind_eq_some_iff.mp H
     obtain ⟨t234, A70, H⟩ := H
     replace H : (spec_l00Word.j0 k a0 (!t234)) = some r := H
     have A7 := Aside0.mk A70
     clear A70
     have H' := Aside0.mk H
     clear H
     have p6 : 0 ≤ (0 : Int) := (by omega)
     have q6 : 0 < a0.size := (by have : (0 : Int) < (a0.size : Int) := of_decide_eq_true (by first | (with_reducible assumption) | assumption); omega)
     have hx6 : ∀ h : 0 < a0.size, ((a0[0]'h).toNat : Int) = bt a0 0 := bt_at a0 0
     clear p6
     have qi6 : (0 < (a0.size : Int)) = True := eq_true (of_decide_eq_true (by first | (with_reducible assumption) | assumption))
     replace q6 := eq_true q6
     go_wp2_with (first | (go_at_call 108; (with_reducible refine (spec_l00Letter.calls (bt a0 0) t234 _ A7.out).mono ?_); rintro e w' ⟨rfl, ⟨nd, rfl⟩⟩))
     go_meet
     case rel => exact ⟨_, (!t234), (by first | rfl | (simp; done) | (simp [*]; done)), H', ⟨by first | omega | exact Nat.le_refl _⟩, by repeat (first | exact Drawn0.refl _ | apply Drawn0.step)⟩
    ·rw [if_neg c5] at H
     exact absurd H (by simp)
 case rest =>
  clear HC2
  try clear p2
  try clear c3
  try clear c3b0
  try clear c3b1
  try clear c4
  try clear c4b0
  try clear c4b1
  try clear c5
  try clear c5b0
  try clear c5b1
  try clear p6
  try clear q6
  try clear hx6
  try clear qi6
  try clear p6
  try clear q6
  obtain ⟨kq, x17_1, rfl, HA, HJ1, ⟨mc1, rfl⟩⟩ := hcut
  cases kq with
  | zero => exact absurd HA.out (by simp [spec_l00Word.j0])
  | succ kj1 =>
   have H := HA.out
   clear HA
   simp only [spec_l00Word.j0] at H
   by_cases c8 : x17_1 = true
   ·subst c8
    have H1 : (some false) = some r := by rw [if_pos rfl] at H; exact H
    clear H
    have H := H1
    clear H1
    obtain rfl := Option.some.inj H
    go_wp2
    go_ret
    exact ⟨by first | rfl | (simp; done) | (simp [*]; done), by repeat (first | exact Drawn0.refl _ | apply Drawn0.step)⟩
   ·replace c8 := Bool.eq_false_iff.mpr c8
    subst c8
    have H1 : (spec_l00Word.l0 kj1 a0 1) = some r := by rw [if_neg (show ¬ (false = true) by decide)] at H; exact H
    clear H
    have H := H1
    clear H1
    have H' := Aside0.mk H
    clear H
    go_wp2
    go_loopg [3] kj1 (fun kq v3 w' => ∃ (x3_2 : Int), v3 = .int .i64 x3_2 ∧ Aside0 (spec_l00Word.l0 kq a0 x3_2 = some r) ∧ Aside0 (kq ≤ kj1) ∧ Drawn0 w w')
    case atStart => exact ⟨(1), (by first | rfl | (simp; done) | (simp [*]; done)), H', ⟨Nat.le_refl _⟩, by repeat (first | exact Drawn0.refl _ | apply Drawn0.step)⟩
    case round =>
     clear H'
     try clear c1
     try clear p2
     try clear c3
     try clear c3b0
     try clear c3b1
     try clear c4
     try clear c4b0
     try clear c4b1
     try clear c5
     try clear c5b0
     try clear c5b1
     try clear p6
     try clear q6
     try clear hx6
     try clear qi6
     try clear c8
     try clear p2
     try clear p6
     try clear q6
     obtain ⟨x3_2, rfl, HA, HK2, ⟨m2, rfl⟩⟩ := hrel
     cases gk with
     | zero => exact absurd HA.out (by simp [spec_l00Word.l0])
     | succ k2 =>
      have H := HA.out
      clear HA
      simp only [spec_l00Word.l0] at H
      by_cases c9 : x3_2 < (a0.size : Int)
      ·rw [if_pos c9] at H
       have c9b0 : decide (x3_2 < (a0.size : Int)) = true := decide_eq_true c9
       clear c9
       by_cases c10 : 0 ≤ x3_2
       ·rw [if_pos c10] at H
        have c10b0 : decide (0 ≤ x3_2) = true := decide_eq_true c10
        clear c10
        replace H := Option.bind_eq_some_iff.mp H
        obtain ⟨t235, A120, H⟩ := H
        replace H : (if t235 = true then (spec_l00Word.l0 k2 a0 (wrap64 (x3_2 + 1))) else ((spec_l00Digit.f (bt a0 x3_2)).bind fun t236 => (if t236 = true then (spec_l00Word.l0 k2 a0 (wrap64 (x3_2 + 1))) else (some false)))) = some r := H
        have A12 := Aside0.mk A120
        clear A120
        by_cases c13 : t235 = true
        ·subst c13
         have H1 : (spec_l00Word.l0 k2 a0 (wrap64 (x3_2 + 1))) = some r := by rw [if_pos rfl] at H; exact H
         clear H
         have H := H1
         clear H1
         have H' := Aside0.mk H
         clear H
         have p11 : 0 ≤ (x3_2 : Int) := of_decide_eq_true (by first | (with_reducible assumption) | assumption)
         have q11 : x3_2 < (a0.size : Int) := of_decide_eq_true (by first | (with_reducible assumption) | assumption)
         have hx11 := bt_at a0 x3_2
         replace p11 := eq_true p11
         replace q11 := eq_true q11
         go_wp2_with (first | ((with_reducible refine gate_callee (f := 108) rfl ?_); refine goesL_ (some 27) rfl rfl Try.func108 (by kernel_rfl) rfl #[.int .u8 (bt a0 x3_2)] rfl (by (try simp only [List.map_toArray, List.map_cons, List.map_nil]); first | done | rfl | (simp only [List.length_drop, List.length_take]; rfl)) ?_; (with_reducible refine (spec_l00Letter.calls (bt a0 x3_2) true _ A12.out).mono ?_); rintro e w' ⟨rfl, ⟨nd, rfl⟩⟩; refine ⟨_, rfl, ?_⟩))
         go_roundg k2
         case measure => have := HJ1.out; have := HK2.out; omega
         case rel => exact ⟨(wrap64 (x3_2 + 1)), (by first | rfl | (simp; done) | (simp [*]; done)), H', ⟨by have := HJ1.out; have := HK2.out; omega⟩, by repeat (first | exact Drawn0.refl _ | apply Drawn0.step)⟩
        ·replace c13 := Bool.eq_false_iff.mpr c13
         subst c13
         have H1 : ((spec_l00Digit.f (bt a0 x3_2)).bind fun t236 => (if t236 = true then (spec_l00Word.l0 k2 a0 (wrap64 (x3_2 + 1))) else (some false))) = some r := by rw [if_neg (show ¬ (false = true) by decide)] at H; exact H
         clear H
         have H := H1
         clear H1
         replace H := Option.bind_eq_some_iff.mp H
         obtain ⟨t236, A150, H⟩ := H
         replace H : (if t236 = true then (spec_l00Word.l0 k2 a0 (wrap64 (x3_2 + 1))) else (some false)) = some r := H
         have A15 := Aside0.mk A150
         clear A150
         by_cases c16 : t236 = true
         ·subst c16
          have H1 : (spec_l00Word.l0 k2 a0 (wrap64 (x3_2 + 1))) = some r := by rw [if_pos rfl] at H; exact H
          clear H
          have H := H1
          clear H1
          have H' := Aside0.mk H
          clear H
          have p11 : 0 ≤ (x3_2 : Int) := of_decide_eq_true (by first | (with_reducible assumption) | assumption)
          have q11 : x3_2 < (a0.size : Int) := of_decide_eq_true (by first | (with_reducible assumption) | assumption)
          have hx11 := bt_at a0 x3_2
          replace p11 := eq_true p11
          replace q11 := eq_true q11
          go_wp2_with (first | ((with_reducible refine gate_callee (f := 108) rfl ?_); refine goesL_ (some 27) rfl rfl Try.func108 (by kernel_rfl) rfl #[.int .u8 (bt a0 x3_2)] rfl (by (try simp only [List.map_toArray, List.map_cons, List.map_nil]); first | done | rfl | (simp only [List.length_drop, List.length_take]; rfl)) ?_; (with_reducible refine (spec_l00Letter.calls (bt a0 x3_2) false _ A12.out).mono ?_); rintro e w' ⟨rfl, ⟨nd, rfl⟩⟩; refine ⟨_, rfl, ?_⟩; have p14 : 0 ≤ (x3_2 : Int) := of_decide_eq_true (by first | (with_reducible assumption) | assumption); have q14 : x3_2 < (a0.size : Int) := of_decide_eq_true (by first | (with_reducible assumption) | assumption); have hx14 := bt_at a0 x3_2; replace p14 := eq_true p14; replace q14 := eq_true q14) | (go_at_call 109; (with_reducible refine (spec_l00Digit.calls (bt a0 x3_2) true _ A15.out).mono ?_); rintro e w' ⟨rfl, ⟨nd, rfl⟩⟩))
          go_roundg k2
          case measure => have := HJ1.out; have := HK2.out; omega
          case rel => exact ⟨(wrap64 (x3_2 + 1)), (by first | rfl | (simp; done) | (simp [*]; done)), H', ⟨by have := HJ1.out; have := HK2.out; omega⟩, by repeat (first | exact Drawn0.refl _ | apply Drawn0.step)⟩
         ·replace c16 := Bool.eq_false_iff.mpr c16
          subst c16
          have H1 : (some false) = some r := by rw [if_neg (show ¬ (false = true) by decide)] at H; exact H
          clear H
          have H := H1
          clear H1
          obtain rfl := Option.some.inj H
          have p11 : 0 ≤ (x3_2 : Int) := of_decide_eq_true (by first | (with_reducible assumption) | assumption)
          have q11 : x3_2 < (a0.size : Int) := of_decide_eq_true (by first | (with_reducible assumption) | assumption)
          have hx11 := bt_at a0 x3_2
          replace p11 := eq_true p11
          replace q11 := eq_true q11
          go_wp2_with (first | ((with_reducible refine gate_callee (f := 108) rfl ?_); refine goesL_ (some 27) rfl rfl Try.func108 (by kernel_rfl) rfl #[.int .u8 (bt a0 x3_2)] rfl (by (try simp only [List.map_toArray, List.map_cons, List.map_nil]); first | done | rfl | (simp only [List.length_drop, List.length_take]; rfl)) ?_; (with_reducible refine (spec_l00Letter.calls (bt a0 x3_2) false _ A12.out).mono ?_); rintro e w' ⟨rfl, ⟨nd, rfl⟩⟩; refine ⟨_, rfl, ?_⟩; have p14 : 0 ≤ (x3_2 : Int) := of_decide_eq_true (by first | (with_reducible assumption) | assumption); have q14 : x3_2 < (a0.size : Int) := of_decide_eq_true (by first | (with_reducible assumption) | assumption); have hx14 := bt_at a0 x3_2; replace p14 := eq_true p14; replace q14 := eq_true q14) | (go_at_call 109; (with_reducible refine (spec_l00Digit.calls (bt a0 x3_2) false _ A15.out).mono ?_); rintro e w' ⟨rfl, ⟨nd, rfl⟩⟩))
          go_ret
          exact ⟨by first | rfl | (simp; done) | (simp [*]; done), by repeat (first | exact Drawn0.refl _ | apply Drawn0.step)⟩
       ·rw [if_neg c10] at H
        exact absurd H (by simp)
      ·rw [if_neg c9] at H
       have c9b0 : decide (x3_2 < (a0.size : Int)) = false := decide_eq_false c9
       clear c9
       obtain rfl := Option.some.inj H
       go_wp2
       go_ret
       exact ⟨by first | rfl | (simp; done) | (simp [*]; done), by repeat (first | exact Drawn0.refl _ | apply Drawn0.step)⟩
def spec_NameOK.f (k : Nat) (a0 : ByteArray) : Option (Bool) := (spec_l00Word.f k a0).bind fun t237 => (some t237)
set_option maxHeartbeats 8000000 in
set_option maxRecDepth 100000 in
theorem spec_NameOK.calls (k : Nat) (a0 : ByteArray) (r : Bool) (w : World) (h : spec_NameOK.f k a0 = some r) :
  Calls Try.prog 59 #[.string a0] w fun e w' => e = .returned (.bool r) ∧ Drawn0 w w' := by
 have H : ((spec_l00Word.f k a0).bind fun t237 => (some t237)) = some r := h
 clear h
 replace H := Option.bind_eq_some_iff.mp H
 obtain ⟨t237, A20, H⟩ := H
 replace H : (some t237) = some r := H
 have A2 := Aside0.mk A20
 clear A20
 obtain rfl := Option.some.inj H
 go_enter Try.func59, Try.ntmps59
 go_wp2_with (first | ((with_reducible refine gate_callee (f := 86) rfl ?_); refine goesL_ (some 4) rfl rfl Try.func86 (by kernel_rfl) rfl #[.string a0] rfl (by (try simp only [List.map_toArray, List.map_cons, List.map_nil]); first | done | rfl | (simp only [List.length_drop, List.length_take]; rfl)) ?_; (with_reducible refine (spec_l00Word.calls k a0 t237 _ A2.out).mono ?_); rintro e w' ⟨rfl, ⟨nd, rfl⟩⟩; refine ⟨_, rfl, ?_⟩))
 go_ret
 exact ⟨by first | rfl | (simp; done) | (simp [*]; done), by repeat (first | exact Drawn0.refl _ | apply Drawn0.step)⟩
def spec_l06Place.l0 : Nat → List ByteArray → ByteArray → Int → Option (Int)
 | 0, _, _, _ => none
 | k + 1, x0, x1, x5 => if x5 < (x0.length : Int) then (if 0 ≤ x5 then (if (rdOf ByteArray.empty x0 x5).toList = x1.toList then (some x5) else (spec_l06Place.l0 k x0 x1 (wrap64 (x5 + 1)))) else (none)) else (some (-1))
def spec_l06Place.f (k : Nat) (l0 : List ByteArray) (a1 : ByteArray) : Option (Int) := spec_l06Place.l0 k l0 a1 0
set_option maxHeartbeats 8000000 in
set_option maxRecDepth 100000 in
theorem spec_l06Place.calls (k : Nat) (A0 : Option Addr) (c0 : Nat) (l0 : List ByteArray) (a1 : ByteArray) (r : Int) (w : World) (hr0 : Kd.C Kd.string w A0 l0.length l0) (hc0 : l0.length ≤ c0) (h : spec_l06Place.f k l0 a1 = some r) :
  Calls Try.prog 60 #[.slice A0 l0.length c0, .string a1] w fun e w' => e = .returned (.int .i64 r) ∧ Drawn0 w w' := by
 have HR0 := Aside0.mk hr0
 have HC0 := Aside0.mk hc0
 clear hr0 hc0
 have H : (spec_l06Place.l0 k l0 a1 0) = some r := h
 clear h
 have H' := Aside0.mk H
 clear H
 go_enter Try.func60, Try.ntmps60
 go_wp2
 go_loopg [5] k (fun kq v5 w' => ∃ (x5_1 : Int), v5 = .int .i64 x5_1 ∧ Aside0 (spec_l06Place.l0 kq l0 a1 x5_1 = some r) ∧ Aside0 (kq ≤ k) ∧ Drawn0 w w')
 case atStart => exact ⟨(0), (by first | rfl | (simp; done) | (simp [*]; done)), H', ⟨Nat.le_refl _⟩, by repeat (first | exact Drawn0.refl _ | apply Drawn0.step)⟩
 case round =>
  clear H'
  try clear p2
  obtain ⟨x5_1, rfl, HA, HK1, ⟨m1, rfl⟩⟩ := hrel
  cases gk with
  | zero => exact absurd HA.out (by simp [spec_l06Place.l0])
  | succ k1 =>
   have H := HA.out
   clear HA
   simp only [spec_l06Place.l0] at H
   by_cases c3 : x5_1 < (l0.length : Int)
   ·rw [if_pos c3] at H
    have c3b0 : decide (x5_1 < (l0.length : Int)) = true := decide_eq_true c3
    clear c3
    by_cases c4 : 0 ≤ x5_1
    ·rw [if_pos c4] at H
     have c4b0 : decide (0 ≤ x5_1) = true := decide_eq_true c4
     clear c4
     by_cases c5 : (rdOf ByteArray.empty l0 x5_1).toList = a1.toList
     ·rw [if_pos c5] at H
      have c5b0 : ((rdOf ByteArray.empty l0 x5_1).toList == a1.toList) = true := beq_iff_eq.mpr c5
      have c5b1 : ((rdOf ByteArray.empty l0 x5_1).toList != a1.toList) = false := bne_eq_false_iff_eq.mpr c5
      clear c5
      obtain rfl := Option.some.inj H
      have p238 : 0 ≤ (x5_1 : Int) := of_decide_eq_true (by first | (with_reducible assumption) | assumption)
      have q238 : x5_1 < (l0.length : Int) := of_decide_eq_true (by first | (with_reducible assumption) | assumption)
      obtain ⟨ad238, e238, hx238_0⟩ := Kd.at_string HR0.out x5_1 p238 q238
      cases e238
      replace p238 := eq_true p238
      replace q238 := eq_true q238
      go_wp2
      go_ret
      exact ⟨by first | rfl | (simp; done) | (simp [*]; done), by repeat (first | exact Drawn0.refl _ | apply Drawn0.step)⟩
     ·rw [if_neg c5] at H
      have c5b0 : ((rdOf ByteArray.empty l0 x5_1).toList == a1.toList) = false := beq_eq_false_iff_ne.mpr c5
      have c5b1 : ((rdOf ByteArray.empty l0 x5_1).toList != a1.toList) = true := bne_iff_ne.mpr c5
      have H' := Aside0.mk H
      clear H
      have p238 : 0 ≤ (x5_1 : Int) := of_decide_eq_true (by first | (with_reducible assumption) | assumption)
      have q238 : x5_1 < (l0.length : Int) := of_decide_eq_true (by first | (with_reducible assumption) | assumption)
      obtain ⟨ad238, e238, hx238_0⟩ := Kd.at_string HR0.out x5_1 p238 q238
      cases e238
      replace p238 := eq_true p238
      replace q238 := eq_true q238
      go_wp2
      go_roundg k1
      case measure => have := HK1.out; omega
      case rel => exact ⟨(wrap64 (x5_1 + 1)), (by first | rfl | (simp; done) | (simp [*]; done)), H', ⟨by have := HK1.out; omega⟩, by repeat (first | exact Drawn0.refl _ | apply Drawn0.step)⟩
    ·rw [if_neg c4] at H
     exact absurd H (by simp)
   ·rw [if_neg c3] at H
    have c3b0 : decide (x5_1 < (l0.length : Int)) = false := decide_eq_false c3
    clear c3
    obtain rfl := Option.some.inj H
    go_wp2
    go_ret
    exact ⟨by first | rfl | (simp; done) | (simp [*]; done), by repeat (first | exact Drawn0.refl _ | apply Drawn0.step)⟩
end Go.Proofs.Ytgibacfgjmdjdaa.PFnExactNeighbours
end
