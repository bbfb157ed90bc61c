/- FnExactRoutesOf: for every input the law returns true. The texts that this program's session printed and proved for it, those that the proof uses, laid together. Conditions: the form's own reach alone. -/
import Derived.Test.YtgibacfgjmdjdaaQFnExactRoutesOf2
section
namespace Go.Proofs.Ytgibacfgjmdjdaa.PFnExactIsStable
open Go.RowKit Go.Proofs.YtgibacfgjmdjdaaW.PrintWords Go.Proofs.YtgibacfgjmdjdaaW.PrintLast Go.Proofs.YtgibacfgjmdjdaaW.PrintMore
attribute [local go_sem] max2_int min2_int max_two min_two max_three min_three max_four min_four   -- for this text's walks alone
set_option linter.unusedVariables false
set_option maxHeartbeats 8000000
set_option maxRecDepth 100000
set_option linter.unusedSimpArgs false
mutual
def spec_l07Env.j0 : Nat → List Int → List Bool → Bool → List ByteArray → List (S92) → List Int → List Int → List (S95) → List (S97) → Option (Int)
 | 0, _, _, _, _, _, _, _, _, _ => none
 | k + 1, x1, x2, x15, x235000, x235001, x235002, x235003, x235004, x235005 => if x15 = true then (some 2) else ((spec_NetOK.f k x235000 x235001 x235002 x235003 x235004 x235005).bind fun t235 => (if t235 = true then (if (x1.length : Int) = (x235003.length : Int) then (spec_l07Env.j1 k x1 ((x2.length : Int) != (x235001.length : Int))) else (spec_l07Env.j1 k x1 true)) else (some 1)))
def spec_l07Env.j1 : Nat → List Int → Bool → Option (Int)
 | 0, _, _ => none
 | k + 1, x1, x32 => if x32 = true then (some 5) else (spec_l07Env.l0 k x1 0)
def spec_l07Env.l0 : Nat → List Int → Int → Option (Int)
 | 0, _, _ => none
 | k + 1, x1, x7 => if x7 < (x1.length : Int) then (if 0 ≤ x7 then ((spec_l01In.f (rd x1 x7) 0 2).bind fun t237 => (if t237 = true then (spec_l07Env.l0 k x1 (wrap64 (x7 + 1))) else (some 5))) else (none)) else (some 0)
end
def spec_l07Env.f (k : Nat) (l0_0 : List ByteArray) (l0_1 : List (S92)) (l0_2 : List Int) (l0_3 : List Int) (l0_4 : List (S95)) (l0_5 : List (S97)) (l1 : List Int) (l2 : List Bool) : Option (Int) := if (l1.length : Int) > 4096 then (spec_l07Env.j0 k l1 l2 true l0_0 l0_1 l0_2 l0_3 l0_4 l0_5) else (spec_l07Env.j0 k l1 l2 (decide ((l2.length : Int) > 4096)) l0_0 l0_1 l0_2 l0_3 l0_4 l0_5)
theorem spec_l07Env.calls (k : Nat) (A0_0 : Option Addr) (c0_0 : Nat) (l0_0 : List ByteArray) (A0_1 : Option Addr) (c0_1 : Nat) (l0_1 : List (S92)) (A0_2 : Option Addr) (c0_2 : Nat) (l0_2 : List Int) (A0_3 : Option Addr) (c0_3 : Nat) (l0_3 : List Int) (A0_4 : Option Addr) (c0_4 : Nat) (l0_4 : List (S95)) (A0_5 : Option Addr) (c0_5 : Nat) (l0_5 : List (S97)) (A1 : Option Addr) (c1 : Nat) (l1 : List Int) (A2 : Option Addr) (c2 : Nat) (l2 : List Bool) (r : Int) (w : World) (hr0_0 : Kd.C Kd.string w A0_0 l0_0.length l0_0) (hc0_0 : l0_0.length ≤ c0_0) (hr0_1 : Kd.C k92 w A0_1 l0_1.length l0_1) (hc0_1 : l0_1.length ≤ c0_1) (hr0_2 : Kd.C (Kd.int .i64) w A0_2 l0_2.length l0_2) (hc0_2 : l0_2.length ≤ c0_2) (hr0_3 : Kd.C (Kd.int .i64) w A0_3 l0_3.length l0_3) (hc0_3 : l0_3.length ≤ c0_3) (hr0_4 : Kd.C k95 w A0_4 l0_4.length l0_4) (hc0_4 : l0_4.length ≤ c0_4) (hr0_5 : Kd.C k97 w A0_5 l0_5.length l0_5) (hc0_5 : l0_5.length ≤ c0_5) (hr1 : Kd.C (Kd.int .i64) w A1 l1.length l1) (hc1 : l1.length ≤ c1) (hr2 : Kd.C Kd.bool w A2 l2.length l2) (hc2 : l2.length ≤ c2) (h : spec_l07Env.f k l0_0 l0_1 l0_2 l0_3 l0_4 l0_5 l1 l2 = some r) :
  Calls Try.prog 39 #[.agg #[.slice A0_0 l0_0.length c0_0, .slice A0_1 l0_1.length c0_1, .slice A0_2 l0_2.length c0_2, .slice A0_3 l0_3.length c0_3, .slice A0_4 l0_4.length c0_4, .slice A0_5 l0_5.length c0_5], .slice A1 l1.length c1, .slice A2 l2.length c2] w fun e w' => e = .returned (.int .i64 r) ∧ Below w.heap.size w w' := by
 have hu38 := Try.underlying38
 obtain ⟨HR0_0, HC0_0, HR0_1, HC0_1, HR0_2, HC0_2, HR0_3, HC0_3, HR0_4, HC0_4, HR0_5, HC0_5⟩ := as12 hr0_0 hc0_0 hr0_1 hc0_1 hr0_2 hc0_2 hr0_3 hc0_3 hr0_4 hc0_4 hr0_5 hc0_5
 clear hr0_0 hc0_0 hr0_1 hc0_1 hr0_2 hc0_2 hr0_3 hc0_3 hr0_4 hc0_4 hr0_5 hc0_5
 have HR1 := aM hr1
 have HC1 := aM hc1
 clear hr1 hc1
 have HR2 := aM hr2
 have HC2 := aM hc2
 clear hr2 hc2
 have HB := aM (Below.refl w.heap.size w)
 have H : (if (l1.length : Int) > 4096 then (spec_l07Env.j0 k l1 l2 true l0_0 l0_1 l0_2 l0_3 l0_4 l0_5) else (spec_l07Env.j0 k l1 l2 (decide ((l2.length : Int) > 4096)) l0_0 l0_1 l0_2 l0_3 l0_4 l0_5)) = some r := h
 clear h
 have HC4 := aM H
 clear H
 go_enter Try.func39, Try.ntmps39
 go_upto_region 1 with (((with_reducible refine gate_dst (N := 3) rfl ?_); (try (refine gate_guard (by rfl) ?_; dsimp only)); refine box_event rfl (N := 3) rfl (cs := #[.slice A0_0 l0_0.length c0_0, .slice A0_1 l0_1.length c0_1, .slice A0_2 l0_2.length c0_2, .slice A0_3 l0_3.length c0_3, .slice A0_4 l0_4.length c0_4, .slice A0_5 l0_5.length c0_5]) (t := 38) (by go_simp; done) ?_; intro gb234 hg w5 hbox hb; have BK234 := aM (hbox); have GW234 := bGE HB.out hg; have GE234 := bGE HB.out hg; replace HB := aB HB hb; clear hb hbox hg))
 (try simp only [Act.put, List.setIfInBounds_toArray, List.set_cons_zero, List.set_cons_succ])
 go_cut [15] (fun v15 wc => ∃ (kq : Nat) (x15_3 : Bool), v15 = .bool x15_3 ∧ Aside0 (spec_l07Env.j0 kq l1 l2 x15_3 l0_0 l0_1 l0_2 l0_3 l0_4 l0_5 = some r) ∧ Aside0 (kq ≤ k) ∧ Aside0 (wc.heap[gb234]? = some (.cells #[(.slice A0_0 l0_0.length c0_0), (.slice A0_1 l0_1.length c0_1), (.slice A0_2 l0_2.length c0_2), (.slice A0_3 l0_3.length c0_3), (.slice A0_4 l0_4.length c0_4), (.slice A0_5 l0_5.length c0_5)] 38 (0, 0))) ∧ Aside0 (Below w.heap.size w wc))
 case first =>
  have H := HC4.out
  clear HC4
  by_cases c6 : (l1.length : Int) > 4096
  ·rw [if_pos c6] at H
   have c6b0 : decide (4096 < (l1.length : Int)) = true := decide_eq_true c6
   have c6b1 : decide (4096 < l1.length) = true := decide_eq_true (by omega)
   clear c6
   (skip)
   have H' := aM H
   clear H
   go_wp2
   go_meet
   case rel => exact ⟨_, (true), (by rfl), H', ⟨by omega⟩, ⟨by exact BK234.out⟩, ⟨by repeat ((with_reducible exact HB.out))⟩⟩
  rw [if_neg c6] at H
  have c6b0 : decide (4096 < (l1.length : Int)) = false := decide_eq_false c6
  have c6b1 : decide (4096 < l1.length) = false := decide_eq_false (by omega)
  clear c6
  (skip)
  have H' := aM H
  clear H
  go_wp2
  go_meet
  case rel => exact ⟨_, (decide ((l2.length : Int) > 4096)), (by rfl), H', ⟨by omega⟩, ⟨by exact BK234.out⟩, ⟨by repeat ((with_reducible exact HB.out))⟩⟩
 clear HC4
 obtain ⟨kq, x15_3, rfl, HA, HJ3, BK234, HB⟩ := hcut
 cases kq with
 | zero => exact absurd HA.out (by simp [spec_l07Env.j0])
 | succ kj3 =>
  have H := HA.out
  clear HA
  simp only [spec_l07Env.j0] at H
  by_cases c7 : x15_3 = true
  ·subst c7
   rw [if_pos rfl] at H
   obtain rfl := Option.some.inj H
   go_wp2
   go_ret
   exact ⟨by rfl, by repeat ((with_reducible exact HB.out))⟩
  replace c7 := Bool.eq_false_iff.mpr c7
  subst c7
  rw [if_neg (show ¬ (false = true) by decide)] at H
  replace H := bS H
  obtain ⟨t235, A80, H⟩ := H
  replace H : (if t235 = true then (if (l1.length : Int) = (l0_3.length : Int) then (spec_l07Env.j1 kj3 l1 ((l2.length : Int) != (l0_1.length : Int))) else (spec_l07Env.j1 kj3 l1 true)) else (some 1)) = some r := H
  have A8 := aM A80
  clear A80
  by_cases c9 : t235 = true
  rotate_left
  ·replace c9 := Bool.eq_false_iff.mpr c9
   subst c9
   rw [if_neg (show ¬ (false = true) by decide)] at H
   obtain rfl := Option.some.inj H
   obtain ⟨hcz21_0, hcz21_1, hcz21_2, hcz21_3, hcz21_4, hcz21_5⟩ := swc6 BK234.out
   obtain ⟨hfz21_0, hfz21_1, hfz21_2, hfz21_3, hfz21_4, hfz21_5⟩ := swf6 BK234.out
   go_wp2_with ((go_at_call 23; (with_reducible refine (spec_NetOK.calls kj3 _ _ l0_0 _ _ l0_1 _ _ l0_2 _ _ l0_3 _ _ l0_4 _ _ l0_5 false _ (Kd.C_below HR0_0.out HB.out) HC0_0.out (Kd.C_below HR0_1.out HB.out) HC0_1.out (Kd.C_below HR0_2.out HB.out) HC0_2.out (Kd.C_below HR0_3.out HB.out) HC0_3.out (Kd.C_below HR0_4.out HB.out) HC0_4.out (Kd.C_below HR0_5.out HB.out) HC0_5.out A8.out).mono ?_); rintro e w22 ⟨rfl, hb⟩; replace BK234 := aK BK234 hb; replace HB := aB HB hb; (try clear hb)))
   go_ret
   exact ⟨by rfl, by repeat ((with_reducible exact HB.out))⟩
  subst c9
  rw [if_pos rfl] at H
  have HC10 := aM H
  clear H
  obtain ⟨hcz11_0, hcz11_1, hcz11_2, hcz11_3, hcz11_4, hcz11_5⟩ := swc6 BK234.out
  obtain ⟨hfz11_0, hfz11_1, hfz11_2, hfz11_3, hfz11_4, hfz11_5⟩ := swf6 BK234.out
  go_upto_region 5 with ((go_at_call 23; (with_reducible refine (spec_NetOK.calls kj3 _ _ l0_0 _ _ l0_1 _ _ l0_2 _ _ l0_3 _ _ l0_4 _ _ l0_5 true _ (Kd.C_below HR0_0.out HB.out) HC0_0.out (Kd.C_below HR0_1.out HB.out) HC0_1.out (Kd.C_below HR0_2.out HB.out) HC0_2.out (Kd.C_below HR0_3.out HB.out) HC0_3.out (Kd.C_below HR0_4.out HB.out) HC0_4.out (Kd.C_below HR0_5.out HB.out) HC0_5.out A8.out).mono ?_); rintro e w12 ⟨rfl, hb⟩; replace BK234 := aK BK234 hb; replace HB := aB HB hb; (try clear hb)))
  (try simp only [Act.put, List.setIfInBounds_toArray, List.set_cons_zero, List.set_cons_succ])
  go_cut [32] (fun v32 wc => ∃ (kq : Nat) (x32_9 : Bool), v32 = .bool x32_9 ∧ Aside0 (spec_l07Env.j1 kq l1 x32_9 = some r) ∧ Aside0 (kq ≤ kj3) ∧ Aside0 (wc.heap[gb234]? = some (.cells #[(.slice A0_0 l0_0.length c0_0), (.slice A0_1 l0_1.length c0_1), (.slice A0_2 l0_2.length c0_2), (.slice A0_3 l0_3.length c0_3), (.slice A0_4 l0_4.length c0_4), (.slice A0_5 l0_5.length c0_5)] 38 (0, 0))) ∧ Aside0 (Below w.heap.size w wc))
  case first =>
   have H := HC10.out
   clear HC10
   by_cases c13 : (l1.length : Int) = (l0_3.length : Int)
   rotate_left
   ·rw [if_neg c13] at H
    have c13b0 : ((l1.length : Int) == (l0_3.length : Int)) = false := beq_eq_false_iff_ne.mpr c13
    have c13b1 : ((l1.length : Int) != (l0_3.length : Int)) = true := bne_iff_ne.mpr c13
    have c13b2 : (l1.length == l0_3.length) = false := by (simp at c13 ⊢; omega)
    (skip)
    have H' := aM H
    clear H
    obtain ⟨hcz15_0, hcz15_1, hcz15_2, hcz15_3, hcz15_4, hcz15_5⟩ := swc6 BK234.out
    obtain ⟨hfz15_0, hfz15_1, hfz15_2, hfz15_3, hfz15_4, hfz15_5⟩ := swf6 BK234.out
    go_wp2
    go_meet
    case rel => exact ⟨_, (true), (by rfl), H', ⟨by have := HJ3.out; omega⟩, ⟨by exact BK234.out⟩, ⟨by repeat ((with_reducible exact HB.out))⟩⟩
   rw [if_pos c13] at H
   have c13b0 : ((l1.length : Int) == (l0_3.length : Int)) = true := beq_iff_eq.mpr c13
   have c13b1 : ((l1.length : Int) != (l0_3.length : Int)) = false := bne_eq_false_iff_eq.mpr c13
   have c13b2 : (l1.length == l0_3.length) = true := by (simp at c13 ⊢; omega)
   clear c13
   (skip)
   have H' := aM H
   clear H
   obtain ⟨hcz14_0, hcz14_1, hcz14_2, hcz14_3, hcz14_4, hcz14_5⟩ := swc6 BK234.out
   obtain ⟨hfz14_0, hfz14_1, hfz14_2, hfz14_3, hfz14_4, hfz14_5⟩ := swf6 BK234.out
   go_wp2
   go_meet
   case rel => exact ⟨_, (((l2.length : Int) != (l0_1.length : Int))), (by rfl), H', ⟨by have := HJ3.out; omega⟩, ⟨by exact BK234.out⟩, ⟨by repeat ((with_reducible exact HB.out))⟩⟩
  clear HC10 hcz11_0 hcz11_1 hcz11_2 hcz11_3 hcz11_4 hcz11_5 hfz11_0 hfz11_1 hfz11_2 hfz11_3 hfz11_4 hfz11_5
  obtain ⟨kq, x32_9, rfl, HA, HJ9, BK234, HB⟩ := hcut
  cases kq with
  | zero => exact absurd HA.out (by simp [spec_l07Env.j1])
  | succ kj9 =>
   have H := HA.out
   clear HA
   simp only [spec_l07Env.j1] at H
   by_cases c16 : x32_9 = true
   ·subst c16
    rw [if_pos rfl] at H
    obtain rfl := Option.some.inj H
    go_wp2
    go_ret
    exact ⟨by rfl, by repeat ((with_reducible exact HB.out))⟩
   replace c16 := Bool.eq_false_iff.mpr c16
   subst c16
   rw [if_neg (show ¬ (false = true) by decide)] at H
   have H' := aM H
   clear H
   go_wp2
   go_loopg [7] kj9 (fun kq v7 w' => ∃ (x7_3 : Int), v7 = .int .i64 x7_3 ∧ Aside0 (spec_l07Env.l0 kq l1 x7_3 = some r) ∧ Aside0 (kq ≤ kj9) ∧ Aside0 (w'.heap[gb234]? = some (.cells #[(.slice A0_0 l0_0.length c0_0), (.slice A0_1 l0_1.length c0_1), (.slice A0_2 l0_2.length c0_2), (.slice A0_3 l0_3.length c0_3), (.slice A0_4 l0_4.length c0_4), (.slice A0_5 l0_5.length c0_5)] 38 (0, 0))) ∧ Aside0 (Below w.heap.size w w'))
   case atStart => exact ⟨(0), (by rfl), H', ⟨Nat.le_refl _⟩, ⟨by exact BK234.out⟩, ⟨by repeat ((with_reducible exact HB.out))⟩⟩
   clear H'
   obtain ⟨x7_3, rfl, HA, HK3, BK234, HB⟩ := hrel
   cases gk with
   | zero => exact absurd HA.out (by simp [spec_l07Env.l0])
   | succ k3 =>
    have H := HA.out
    clear HA
    simp only [spec_l07Env.l0] at H
    by_cases c17 : x7_3 < (l1.length : Int)
    rotate_left
    ·rw [if_neg c17] at H
     have c17b0 : decide (x7_3 < (l1.length : Int)) = false := decide_eq_false c17
     clear c17
     obtain rfl := Option.some.inj H
     go_wp2
     go_ret
     exact ⟨by rfl, by repeat ((with_reducible exact HB.out))⟩
    rw [if_pos c17] at H
    have c17b0 : decide (x7_3 < (l1.length : Int)) = true := decide_eq_true c17
    clear c17
    by_cases c18 : 0 ≤ x7_3
    rotate_left
    ·rw [if_neg c18] at H
     exact absurd H (by simp)
    rw [if_pos c18] at H
    have c18b0 : decide (0 ≤ x7_3) = true := decide_eq_true c18
    clear c18
    replace H := bS H
    obtain ⟨t237, A190, H⟩ := H
    replace H : (if t237 = true then (spec_l07Env.l0 k3 l1 (wrap64 (x7_3 + 1))) else (some 5)) = some r := H
    have A19 := aM A190
    clear A190
    by_cases c20 : t237 = true
    rotate_left
    ·replace c20 := Bool.eq_false_iff.mpr c20
     subst c20
     rw [if_neg (show ¬ (false = true) by decide)] at H
     obtain rfl := Option.some.inj H
     have p236 : 0 ≤ (x7_3 : Int) := oD ‹_›
     have q236 : x7_3 < (l1.length : Int) := oD ‹_›
     obtain ⟨ad236, e236, hx236_0⟩ := Kd.at_int HR1.out x7_3 p236 q236
     cases e236
     replace hx236_0 := swB HB.out hx236_0
     replace p236 := eq_true p236
     replace q236 := eq_true q236
     go_wp2_with ((go_at_call 40; (with_reducible refine (spec_l01In.calls (rd l1 x7_3) 0 2 false _ A19.out).mono ?_); rintro e w' ⟨rfl, ⟨nd, rfl⟩⟩))
     go_ret
     exact ⟨by rfl, by repeat ((with_reducible first | exact HB.out | apply pw_below_drewN))⟩
    subst c20
    rw [if_pos rfl] at H
    have H' := aM H
    clear H
    have p236 : 0 ≤ (x7_3 : Int) := oD ‹_›
    have q236 : x7_3 < (l1.length : Int) := oD ‹_›
    obtain ⟨ad236, e236, hx236_0⟩ := Kd.at_int HR1.out x7_3 p236 q236
    cases e236
    replace hx236_0 := swB HB.out hx236_0
    replace p236 := eq_true p236
    replace q236 := eq_true q236
    go_wp2_with ((go_at_call 40; (with_reducible refine (spec_l01In.calls (rd l1 x7_3) 0 2 true _ A19.out).mono ?_); rintro e w' ⟨rfl, ⟨nd, rfl⟩⟩))
    go_roundg k3
    case measure => have := HJ3.out; have := HJ9.out; have := HK3.out; omega
    case rel => exact ⟨(wrap64 (x7_3 + 1)), (by rfl), H', ⟨by have := HJ3.out; have := HJ9.out; have := HK3.out; omega⟩, ⟨by (with_reducible repeat (refine blk_drewN ?_ _)); exact BK234.out⟩, ⟨by repeat ((with_reducible first | exact HB.out | apply pw_below_drewN))⟩⟩
def spec_l07None.f  : Option (Int × Int × Int × Bool) := some ((-3), 0, 0, false)
theorem spec_l07None.calls  (r1 : Int) (r2 : Int) (r3 : Int) (r4 : Bool) (w : World) (h : spec_l07None.f  = some (r1, r2, r3, r4)) :
  Calls Try.prog 72 #[] w fun e w' => e = .returned (.agg #[.int .i64 r1, .int .i64 r2, .int .i64 r3, .bool r4]) ∧ Below w.heap.size w w' := by
 have hu80 := Try.underlying80
 have HB := aM (Below.refl w.heap.size w)
 have H : (some ((-3), 0, 0, false)) = some (r1, r2, r3, r4) := h
 clear h
 simp only [Option.some.injEq, Prod.mk.injEq] at H
 obtain ⟨rfl, rfl, rfl, rfl⟩ := H
 go_enter Try.func72, Try.ntmps72
 go_wp2_with (((with_reducible refine gate_dst (N := 0) rfl ?_); refine box_event rfl (N := 0) rfl (cs := #[.int .i64 0, .int .i64 0, .int .i64 0, .bool false]) (t := 80) (by go_simp; done) ?_; intro gb238 hg w1 hbox hb; have BK238 := aM (hbox); have GW238 := bGE HB.out hg; have GE238 := bGE HB.out hg; replace HB := aB HB hb; clear hb hbox hg; obtain ⟨hcz2_0, hcz2_1, hcz2_2, hcz2_3⟩ := swc4 BK238.out; obtain ⟨hfz2_0, hfz2_1, hfz2_2, hfz2_3⟩ := swf4 BK238.out))
 refine bodyPost_ret (results_cell_row rfl _ _ gb238 80 #[.int .i64 (-3), .int .i64 0, .int .i64 0, .bool false] (0, 0) _ rfl (by refine blk_put (cs := #[.int .i64 (-3), .int .i64 0, .int .i64 0, .bool false]) ?_ 3 _ rfl; refine blk_put (cs := #[.int .i64 (-3), .int .i64 0, .int .i64 0, .bool false]) ?_ 2 _ rfl; refine blk_put (cs := #[.int .i64 (-3), .int .i64 0, .int .i64 0, .bool false]) ?_ 1 _ rfl; refine blk_put (cs := #[.int .i64 0, .int .i64 0, .int .i64 0, .bool false]) ?_ 0 _ rfl; exact BK238.out) Try.underlying80 rfl (by kernel_rfl)) rfl ?_
 exact ⟨by rfl, by repeat ((with_reducible first | exact HB.out | refine below_set ?_ GE238.out))⟩
def VP.box (n : Nat) (cs : Array Value) (ty : TypeId) : VP := ⟨fun B W v => ∃ g, v = .pointer (some ⟨g, 0, none⟩) ∧ n ≤ g ∧ B g ∧ W.heap[g]? = some (.cells cs ty (0, 0)), fun B B' W W' v hb h1 _ h => by
 obtain ⟨g, e, hn, hB, hg⟩ := h
 exact ⟨g, e, hn, h1 g hB, blk_below hg hb⟩⟩
section
variable {ops : Array Oper} {Q : Exit → Act → World → Prop} {o : Oper} {b : Act} {W : World} {K : Act → World → Prop} {s s1 s2 s3 : Tmp}
theorem x_fa80 {g i : Nat} (ho : o.op = .fieldAddr 80 (.tmp s) i) (hi : i < 4) (h : b.eval (.tmp s) = .pointer (some ⟨g, 0, none⟩)) : (execOp b.eval o).run Try.prog W = .ok (.value (.pointer (some ⟨g, i, none⟩))) W := by
 have hu80 := Try.underlying80
 unfold execOp
 rw [ho]
 simp only [h]
 match i, hi with
 | 0, _ => go_simp
 | 1, _ => go_simp
 | 2, _ => go_simp
 | 3, _ => go_simp
theorem x_ld80 {g : Nat} {x0 x1 x2 : Int} {x3 : Bool} (ho : o.op = .load 80 (.tmp s)) (h : b.eval (.tmp s) = .pointer (some ⟨g, 0, none⟩)) (hc : W.heap[g]? = some (.cells #[.int .i64 x0, .int .i64 x1, .int .i64 x2, .bool x3] 80 (0, 0))) : (execOp b.eval o).run Try.prog W = .ok (.value (.agg #[.int .i64 x0, .int .i64 x1, .int .i64 x2, .bool x3])) W := by
 have h0 := (blk_cell hc 0).trans (show _ = some (.int .i64 x0) from rfl)
 have h1 := (blk_cell hc 1).trans (show _ = some (.int .i64 x1) from rfl)
 have h2 := (blk_cell hc 2).trans (show _ = some (.int .i64 x2) from rfl)
 have h3 := (blk_cell hc 3).trans (show _ = some (.bool x3) from rfl)
 have hu80 := Try.underlying80
 unfold execOp
 rw [ho]
 simp only [h]
 go_simp
theorem x_ld38 {g : Nat} {v0 v1 v2 v3 v4 v5 : Value} (ho : o.op = .load 38 (.tmp s)) (h : b.eval (.tmp s) = .pointer (some ⟨g, 0, none⟩)) (hc : W.heap[g]? = some (.cells #[v0, v1, v2, v3, v4, v5] 38 (0, 0))) : (execOp b.eval o).run Try.prog W = .ok (.value (.agg #[v0, v1, v2, v3, v4, v5])) W := by
 have h0 := (blk_cell hc 0).trans (show _ = some v0 from rfl)
 have h1 := (blk_cell hc 1).trans (show _ = some v1 from rfl)
 have h2 := (blk_cell hc 2).trans (show _ = some v2 from rfl)
 have h3 := (blk_cell hc 3).trans (show _ = some v3 from rfl)
 have h4 := (blk_cell hc 4).trans (show _ = some v4 from rfl)
 have h5 := (blk_cell hc 5).trans (show _ = some v5 from rfl)
 have hu38 := Try.underlying38
 unfold execOp
 rw [ho]
 simp only [h]
 go_simp
theorem x_neq80 {x0 x1 x2 y0 y1 y2 : Int} {x3 y3 : Bool} {p q : Operand} (ho : o.op = .binOp .neq 80 p q 80) (h1 : b.eval p = .agg #[.int .i64 x0, .int .i64 x1, .int .i64 x2, .bool x3]) (h2 : b.eval q = .agg #[.int .i64 y0, .int .i64 y1, .int .i64 y2, .bool y3]) : (execOp b.eval o).run Try.prog W = .ok (.value (.bool (!((x0 == y0) && ((x1 == y1) && ((x2 == y2) && (x3 == y3))))))) W := by
 have hu80 := Try.underlying80
 have hu3 := Try.underlying3
 have hu4 := Try.underlying4
 unfold execOp
 rw [ho]
 simp only [h1, h2]
 go_simp
 by_cases e0 : x0 = y0 <;> by_cases e1 : x1 = y1 <;> by_cases e2 : x2 = y2 <;> by_cases e3 : x3 = y3 <;> simp [e0, e1, e2, e3]
theorem x_bd80 {x0 : Int} (ho : o.op = .build 80 #[(0, .const (.int .i64 x0))]) : (execOp b.eval o).run Try.prog W = .ok (.value (.agg #[.int .i64 x0, .int .i64 0, .int .i64 0, .bool false])) W := by
 have hu80 := Try.underlying80
 unfold execOp
 rw [ho]
 go_simp
theorem x_ld4 {ad : Addr} {x : Bool} (ho : o.op = .load 4 (.tmp s)) (h : b.eval (.tmp s) = .pointer (some ad)) (hc : W.cell? ad = some (.bool x)) : (execOp b.eval o).run Try.prog W = .ok (.value (.bool x)) W := by
 unfold execOp
 rw [ho]
 simp only [h]
 go_simp
theorem al_step80 (hg : o.guard = none) (ho : o.op = .alloc 80) (hK : ∀ W', (∃ g, Value.pointer (some ⟨W.heap.size, 0, none⟩) = .pointer (some ⟨g, 0, none⟩) ∧ W.heap.size ≤ g ∧ g = W.heap.size ∧ W'.heap[g]? = some (.cells #[.int .i64 0, .int .i64 0, .int .i64 0, .bool false] 80 (0, 0))) → Below W.heap.size W W' → W.heap.size < W'.heap.size → K (b.put o.dst (.pointer (some ⟨W.heap.size, 0, none⟩))) W') :
  if Region.wanted o (yielded ops b.tmps) = true then Oper.wp Try.prog o b W K Q else K (b.put o.dst undef) W := by
 have hnew := blk_new W (.cells #[.int .i64 0, .int .i64 0, .int .i64 0, .bool false] 80)
 refine value_ (by unfold Region.wanted; rw [hg]) rfl (v := .pointer (some ⟨W.heap.size, 0, none⟩)) (w1 := W.alloc (.cells #[.int .i64 0, .int .i64 0, .int .i64 0, .bool false] 80)) ?_ (hK _ ⟨_, rfl, Nat.le_refl _, rfl, hnew⟩ (below_alloc (Below.refl _ _) _) (blk_lt hnew))
 have hu80 := Try.underlying80
 unfold execOp
 rw [ho]
 go_simp
theorem x_ix34 {ad : Addr} {n c : Nat} {t : Int} (ho : o.op = .indexAddr 34 (.tmp s) (.tmp s2)) (h : b.eval (.tmp s) = .slice (some ad) n c) (h2 : b.eval (.tmp s2) = .int .i64 t) (h0 : 0 ≤ t) (h1 : t < (n : Int)) (hn : n ≤ 9223372036854775807) : (execOp b.eval o).run Try.prog W = .ok (.value (.pointer (some (ad.add (t.toNat * 3))))) W := by
 have hu34 := Try.underlying34
 unfold execOp
 rw [ho]
 simp only [h, h2]
 go_simp
theorem x_fb92 {a : Addr} (ho : o.op = .fieldAddr 92 (.tmp s) 2) (h : b.eval (.tmp s) = .pointer (some a)) : (execOp b.eval o).run Try.prog W = .ok (.value (.pointer (some ⟨a.block, a.off + 2, none⟩))) W := by
 have hu92 := Try.underlying92
 unfold execOp
 rw [ho]
 simp only [h]
 go_simp
theorem x_bdr {x0 x2 : Int} {x3 : Bool} (ho : o.op = .build 80 #[(0, .tmp s), (1, .const (.int .i64 100)), (2, .tmp s2), (3, .tmp s3)]) (h1 : b.eval (.tmp s) = .int .i64 x0) (h2 : b.eval (.tmp s2) = .int .i64 x2) (h3 : b.eval (.tmp s3) = .bool x3) : (execOp b.eval o).run Try.prog W = .ok (.value (.agg #[.int .i64 x0, .int .i64 100, .int .i64 x2, .bool x3])) W := by
 have hu80 := Try.underlying80
 replace h1 := tm_eval h1
 replace h2 := tm_eval h2
 replace h3 := tm_eval h3
 unfold execOp
 rw [ho]
 go_simp
end
theorem boxv4 {W : World} {g : Nat} {t : TypeId} {u0 u1 u2 u3 v0 v1 v2 v3 : Value} (hb : W.heap[g]? = some (.cells #[u0, u1, u2, u3] t (0, 0))) : ((((W.setCell ⟨g, 0, none⟩ v0).setCell ⟨g, 1, none⟩ v1).setCell ⟨g, 2, none⟩ v2).setCell ⟨g, 3, none⟩ v3).heap[g]? = some (.cells #[v0, v1, v2, v3] t (0, 0)) ∧ Kept W ((((W.setCell ⟨g, 0, none⟩ v0).setCell ⟨g, 1, none⟩ v1).setCell ⟨g, 2, none⟩ v2).setCell ⟨g, 3, none⟩ v3) (fun k => k = g) ∧ ∀ w0 : World, Below w0.heap.size w0 W → w0.heap.size ≤ g → Below w0.heap.size w0 ((((W.setCell ⟨g, 0, none⟩ v0).setCell ⟨g, 1, none⟩ v1).setCell ⟨g, 2, none⟩ v2).setCell ⟨g, 3, none⟩ v3) := by
 have hs : ∀ (V : World) (i : Nat) (u : Value), Kept V (V.setCell ⟨g, i, none⟩ u) (fun k => k = g) := fun V i u => Kept.setCell (S := fun k => k = g) (p := ⟨g, i, none⟩) (Kept.refl V _) (.inl rfl) u
 exact ⟨(blk_put (cs' := #[v0, v1, v2, v3]) (blk_put (cs' := #[v0, v1, v2, u3]) (blk_put (cs' := #[v0, v1, u2, u3]) (blk_put (cs' := #[v0, u1, u2, u3]) hb 0 _ rfl) 1 _ rfl) 2 _ rfl) 3 _ rfl), ((((hs _ 0 _).then_ (hs _ 1 _) (fun _ h => .inl h)).then_ (hs _ 2 _) (fun _ h => .inl h)).then_ (hs _ 3 _) (fun _ h => .inl h)), fun w0 h1 h2 => (below_set (below_set (below_set (below_set h1 h2) h2) h2) h2)⟩
end Go.Proofs.Ytgibacfgjmdjdaa.PFnExactIsStable
end
section
namespace Go.Proofs.Ytgibacfgjmdjdaa.PFnExactIsStable
open Go.RowKit Go.Proofs.YtgibacfgjmdjdaaW.PrintWords Go.Proofs.YtgibacfgjmdjdaaW.PrintLast Go.Proofs.YtgibacfgjmdjdaaW.PrintMore
attribute [local go_sem] max2_int min2_int max_two min_two max_three min_three max_four min_four   -- for this text's walks alone
set_option linter.unusedVariables false
set_option maxHeartbeats 8000000
set_option maxRecDepth 100000
set_option linter.unusedSimpArgs false
def spec_l06Neighbours.l0 : Nat → Int → List Bool → List Int → Int → List ByteArray → List (S92) → List Int → List Int → List (S95) → List (S97) → Option (List Int)
 | 0, _, _, _, _, _, _, _, _, _, _ => none
 | k + 1, x1, x2, x7, x8, x240000, x240001, x240002, x240003, x240004, x240005 => if x8 < (x240000.length : Int) then ((spec_l06Link.f k x240001 x1 x8).bind fun t243 => (if t243 ≥ 0 then (if 0 ≤ t243 then (if t243 < (x2.length : Int) then (if rdOf false x2 t243 = true then (spec_l06Neighbours.l0 k x1 x2 x7 (wrap64 (x8 + 1)) x240000 x240001 x240002 x240003 x240004 x240005) else (if x7.length < 17592186044416 then (spec_l06Neighbours.l0 k x1 x2 (x7 ++ [x8]) (wrap64 (x8 + 1)) x240000 x240001 x240002 x240003 x240004 x240005) else (none))) else (none)) else (none)) else (spec_l06Neighbours.l0 k x1 x2 x7 (wrap64 (x8 + 1)) x240000 x240001 x240002 x240003 x240004 x240005))) else (some x7)
def spec_l06Neighbours.f (k : Nat) (l0_0 : List ByteArray) (l0_1 : List (S92)) (l0_2 : List Int) (l0_3 : List Int) (l0_4 : List (S95)) (l0_5 : List (S97)) (a1 : Int) (l2 : List Bool) : Option (List Int) := spec_l06Neighbours.l0 k a1 l2 (([] : List Int)) 0 l0_0 l0_1 l0_2 l0_3 l0_4 l0_5
theorem spec_l06Neighbours.calls (k : Nat) (A0_0 : Option Addr) (c0_0 : Nat) (l0_0 : List ByteArray) (A0_1 : Option Addr) (c0_1 : Nat) (l0_1 : List (S92)) (A0_2 : Option Addr) (c0_2 : Nat) (l0_2 : List Int) (A0_3 : Option Addr) (c0_3 : Nat) (l0_3 : List Int) (A0_4 : Option Addr) (c0_4 : Nat) (l0_4 : List (S95)) (A0_5 : Option Addr) (c0_5 : Nat) (l0_5 : List (S97)) (a1 : Int) (A2 : Option Addr) (c2 : Nat) (l2 : List Bool) (r : List Int) (w : World) (hr0_0 : Kd.C Kd.string w A0_0 l0_0.length l0_0) (hc0_0 : l0_0.length ≤ c0_0) (hr0_1 : Kd.C k92 w A0_1 l0_1.length l0_1) (hc0_1 : l0_1.length ≤ c0_1) (hr0_2 : Kd.C (Kd.int .i64) w A0_2 l0_2.length l0_2) (hc0_2 : l0_2.length ≤ c0_2) (hr0_3 : Kd.C (Kd.int .i64) w A0_3 l0_3.length l0_3) (hc0_3 : l0_3.length ≤ c0_3) (hr0_4 : Kd.C k95 w A0_4 l0_4.length l0_4) (hc0_4 : l0_4.length ≤ c0_4) (hr0_5 : Kd.C k97 w A0_5 l0_5.length l0_5) (hc0_5 : l0_5.length ≤ c0_5) (hr2 : Kd.C Kd.bool w A2 l2.length l2) (hc2 : l2.length ≤ c2) (h : spec_l06Neighbours.f k l0_0 l0_1 l0_2 l0_3 l0_4 l0_5 a1 l2 = some r) :
  Calls Try.prog 63 #[.agg #[.slice A0_0 l0_0.length c0_0, .slice A0_1 l0_1.length c0_1, .slice A0_2 l0_2.length c0_2, .slice A0_3 l0_3.length c0_3, .slice A0_4 l0_4.length c0_4, .slice A0_5 l0_5.length c0_5], .int .i64 a1, .slice A2 l2.length c2] w fun e w' => ∃ v0_ : Value, e = .returned (v0_) ∧ Kd.R (Kd.int .i64) 3 w' w.heap.size (fun _ => True) v0_ r ∧ Below w.heap.size w w' := by
 have hu38 := Try.underlying38
 obtain ⟨HR0_0, HC0_0, HR0_1, HC0_1, HR0_2, HC0_2, HR0_3, HC0_3, HR0_4, HC0_4, HR0_5, HC0_5⟩ := as12 hr0_0 hc0_0 hr0_1 hc0_1 hr0_2 hc0_2 hr0_3 hc0_3 hr0_4 hc0_4 hr0_5 hc0_5
 clear hr0_0 hc0_0 hr0_1 hc0_1 hr0_2 hc0_2 hr0_3 hc0_3 hr0_4 hc0_4 hr0_5 hc0_5
 have HR2 := aM hr2
 have HC2 := aM hc2
 clear hr2 hc2
 have HB := aM (Below.refl w.heap.size w)
 have H : (spec_l06Neighbours.l0 k a1 l2 (([] : List Int)) 0 l0_0 l0_1 l0_2 l0_3 l0_4 l0_5) = some r := h
 clear h
 obtain ⟨y240, hy240⟩ : ∃ y_ : List Int, y_ = (([] : List Int)) := ⟨_, rfl⟩
 replace H : (spec_l06Neighbours.l0 k a1 l2 y240 0 l0_0 l0_1 l0_2 l0_3 l0_4 l0_5) = some r := by (rw [hy240]; with_reducible exact H)
 have Ny240 := aM hy240
 clear hy240
 have H' := aM H
 clear H
 go_enter Try.func63, Try.ntmps63
 go_wp2_with (first | ((with_reducible refine gate_dst (N := 3) rfl ?_); refine box_event rfl (N := 3) rfl (cs := #[.slice A0_0 l0_0.length c0_0, .slice A0_1 l0_1.length c0_1, .slice A0_2 l0_2.length c0_2, .slice A0_3 l0_3.length c0_3, .slice A0_4 l0_4.length c0_4, .slice A0_5 l0_5.length c0_5]) (t := 38) (by go_simp; done) ?_; intro gb239 hg w4 hbox hb; have BK239 := aM (hbox); have GW239 := bGE HB.out hg; have GE239 := bGE HB.out hg; replace HB := aB HB hb; clear hb hbox hg) | ((with_reducible refine gate_dst (N := 10) rfl ?_); refine Kd.R_lit (Kd.int .i64) _ 3 ?hg (N := 10) ?hd (xs := ([] : List Int)) (inner := []) (ok := fun _ => True) (okp := fun _ => True) ?hr ?hp (fun _ hk => hk) trivial (Below.refl _ _) (Nat.le_refl _) (by simp) ?_; (case hd => rfl); (case hg => rfl); (case hr => (go_simp; done)); (case hp => exact (Reps.none _ _)); intro v241 w5 ho6 hb hg_ hnew_; clear hg_ hnew_; (rw [← Ny240.out] at ho6); have HO242 := aM (Kd.R_lower ho6 (below_size HB.out)); replace BK239 := aK BK239 hb; replace HB := aB HB hb; clear hb ho6))
 go_loopg [7, 8] k (fun kq v7 v8 w' => ∃ (x7_1 : List Int) (x8_1 : Int), v8 = .int .i64 x8_1 ∧ Aside0 (spec_l06Neighbours.l0 kq a1 l2 x7_1 x8_1 l0_0 l0_1 l0_2 l0_3 l0_4 l0_5 = some r) ∧ Aside0 (kq ≤ k) ∧ Aside0 (Kd.R (Kd.int .i64) 3 w' w.heap.size (fun _ => True) v7 x7_1) ∧ Aside0 (w'.heap[gb239]? = some (.cells #[(.slice A0_0 l0_0.length c0_0), (.slice A0_1 l0_1.length c0_1), (.slice A0_2 l0_2.length c0_2), (.slice A0_3 l0_3.length c0_3), (.slice A0_4 l0_4.length c0_4), (.slice A0_5 l0_5.length c0_5)] 38 (0, 0))) ∧ Aside0 (Below w.heap.size w w'))
 case atStart => exact ⟨(y240), (0), (by rfl), H', ⟨Nat.le_refl _⟩, ⟨by exact HO242.out⟩, ⟨by exact BK239.out⟩, ⟨by repeat ((with_reducible exact HB.out))⟩⟩
 clear H'
 obtain ⟨x7_1, x8_1, rfl, HA, HK1, HO_7, BK239, HB⟩ := hrel
 cases gk with
 | zero => exact absurd HA.out (by simp [spec_l06Neighbours.l0])
 | succ k1 =>
  have H := HA.out
  clear HA
  simp only [spec_l06Neighbours.l0] at H
  by_cases c7 : x8_1 < (l0_0.length : Int)
  rotate_left
  ·rw [if_neg c7] at H
   have c7b0 : decide (x8_1 < (l0_0.length : Int)) = false := decide_eq_false c7
   clear c7
   obtain rfl := Option.some.inj H
   obtain ⟨hcz19_0, hcz19_1, hcz19_2, hcz19_3, hcz19_4, hcz19_5⟩ := swc6 BK239.out
   obtain ⟨hfz19_0, hfz19_1, hfz19_2, hfz19_3, hfz19_4, hfz19_5⟩ := swf6 BK239.out
   go_wp2
   go_ret
   exact ⟨_, by rfl, by exact HO_7.out, by repeat ((with_reducible exact HB.out))⟩
  rw [if_pos c7] at H
  have c7b0 : decide (x8_1 < (l0_0.length : Int)) = true := decide_eq_true c7
  clear c7
  replace H := bS H
  obtain ⟨t243, A80, H⟩ := H
  replace H : (if t243 ≥ 0 then (if 0 ≤ t243 then (if t243 < (l2.length : Int) then (if rdOf false l2 t243 = true then (spec_l06Neighbours.l0 k1 a1 l2 x7_1 (wrap64 (x8_1 + 1)) l0_0 l0_1 l0_2 l0_3 l0_4 l0_5) else (if x7_1.length < 17592186044416 then (spec_l06Neighbours.l0 k1 a1 l2 (x7_1 ++ [x8_1]) (wrap64 (x8_1 + 1)) l0_0 l0_1 l0_2 l0_3 l0_4 l0_5) else (none))) else (none)) else (none)) else (spec_l06Neighbours.l0 k1 a1 l2 x7_1 (wrap64 (x8_1 + 1)) l0_0 l0_1 l0_2 l0_3 l0_4 l0_5)) = some r := H
  have A8 := aM A80
  clear A80
  by_cases c9 : t243 ≥ 0
  rotate_left
  ·rw [if_neg c9] at H
   have c9b0 : decide (0 ≤ t243) = false := decide_eq_false c9
   clear c9
   have H' := aM H
   clear H
   obtain ⟨hcz18_0, hcz18_1, hcz18_2, hcz18_3, hcz18_4, hcz18_5⟩ := swc6 BK239.out
   obtain ⟨hfz18_0, hfz18_1, hfz18_2, hfz18_3, hfz18_4, hfz18_5⟩ := swf6 BK239.out
   go_wp2_with ((go_at_call 61; (with_reducible refine (spec_l06Link.calls k1 _ _ l0_1 a1 x8_1 t243 _ (Kd.C_below HR0_1.out HB.out) HC0_1.out A8.out).mono ?_); rintro e w' ⟨rfl, ⟨nd, rfl⟩⟩))
   go_roundg k1
   case measure => have := HK1.out; omega
   case rel => exact ⟨(x7_1), (wrap64 (x8_1 + 1)), (by rfl), H', ⟨by have := HK1.out; omega⟩, ⟨by (with_reducible repeat (apply Kd.R_drewN)); exact HO_7.out⟩, ⟨by (with_reducible repeat (refine blk_drewN ?_ _)); exact BK239.out⟩, ⟨by repeat ((with_reducible first | exact HB.out | apply pw_below_drewN))⟩⟩
  rw [if_pos c9] at H
  have c9b0 : decide (0 ≤ t243) = true := decide_eq_true c9
  clear c9
  by_cases c10 : 0 ≤ t243
  rotate_left
  ·rw [if_neg c10] at H
   exact absurd H (by simp)
  rw [if_pos c10] at H
  have c10b0 : decide (0 ≤ t243) = true := decide_eq_true c10
  clear c10
  by_cases c11 : t243 < (l2.length : Int)
  rotate_left
  ·rw [if_neg c11] at H
   exact absurd H (by simp)
  rw [if_pos c11] at H
  have c11b0 : decide (t243 < (l2.length : Int)) = true := decide_eq_true c11
  clear c11
  obtain ⟨bq12, hbq12⟩ : ∃ b_ : Bool, b_ = (rdOf false l2 t243) := ⟨_, rfl⟩
  replace H : (if bq12 = true then (spec_l06Neighbours.l0 k1 a1 l2 x7_1 (wrap64 (x8_1 + 1)) l0_0 l0_1 l0_2 l0_3 l0_4 l0_5) else (if x7_1.length < 17592186044416 then (spec_l06Neighbours.l0 k1 a1 l2 (x7_1 ++ [x8_1]) (wrap64 (x8_1 + 1)) l0_0 l0_1 l0_2 l0_3 l0_4 l0_5) else (none))) = some r := by rw [← hbq12] at H; exact H
  have Nbq12 := aM hbq12
  clear hbq12
  by_cases c13 : bq12 = true
  ·subst c13
   rw [if_pos rfl] at H
   have H' := aM H
   clear H
   obtain ⟨hcz14_0, hcz14_1, hcz14_2, hcz14_3, hcz14_4, hcz14_5⟩ := swc6 BK239.out
   obtain ⟨hfz14_0, hfz14_1, hfz14_2, hfz14_3, hfz14_4, hfz14_5⟩ := swf6 BK239.out
   go_wp2_with ((go_at_call 61; (with_reducible refine (spec_l06Link.calls k1 _ _ l0_1 a1 x8_1 t243 _ (Kd.C_below HR0_1.out HB.out) HC0_1.out A8.out).mono ?_); rintro e w' ⟨rfl, ⟨nd, rfl⟩⟩; have p244 : 0 ≤ (t243 : Int) := oD ‹_›; have q244 : t243 < (l2.length : Int) := oD ‹_›; obtain ⟨ad244, e244, hx244_0⟩ := Kd.at_bool HR2.out t243 p244 q244; (try rw [← Nbq12.out] at hx244_0); cases e244; replace hx244_0 := swB HB.out hx244_0; replace p244 := eq_true p244; replace q244 := eq_true q244))
   go_roundg k1
   case measure => have := HK1.out; omega
   case rel => exact ⟨(x7_1), (wrap64 (x8_1 + 1)), (by rfl), H', ⟨by have := HK1.out; omega⟩, ⟨by (with_reducible repeat (apply Kd.R_drewN)); exact HO_7.out⟩, ⟨by (with_reducible repeat (refine blk_drewN ?_ _)); exact BK239.out⟩, ⟨by repeat ((with_reducible first | exact HB.out | apply pw_below_drewN))⟩⟩
  replace c13 := Bool.eq_false_iff.mpr c13
  subst c13
  rw [if_neg (show ¬ (false = true) by decide)] at H
  by_cases c15 : x7_1.length < 17592186044416
  rotate_left
  ·rw [if_neg c15] at H
   exact absurd H (by simp)
  rw [if_pos c15] at H
  have LMc15 := aM c15
  clear c15
  obtain ⟨y245, hy245⟩ : ∃ y_ : List Int, y_ = (x7_1 ++ [x8_1]) := ⟨_, rfl⟩
  replace H : (spec_l06Neighbours.l0 k1 a1 l2 y245 (wrap64 (x8_1 + 1)) l0_0 l0_1 l0_2 l0_3 l0_4 l0_5) = some r := by (rw [hy245]; with_reducible exact H)
  have Ny245 := aM hy245
  clear hy245
  have H' := aM H
  clear H
  obtain ⟨hcz16_0, hcz16_1, hcz16_2, hcz16_3, hcz16_4, hcz16_5⟩ := swc6 BK239.out
  obtain ⟨hfz16_0, hfz16_1, hfz16_2, hfz16_3, hfz16_4, hfz16_5⟩ := swf6 BK239.out
  go_wp2_with (first | (go_at_call 61; (with_reducible refine (spec_l06Link.calls k1 _ _ l0_1 a1 x8_1 t243 _ (Kd.C_below HR0_1.out HB.out) HC0_1.out A8.out).mono ?_); rintro e w' ⟨rfl, ⟨nd, rfl⟩⟩; have p244 : 0 ≤ (t243 : Int) := oD ‹_›; have q244 : t243 < (l2.length : Int) := oD ‹_›; obtain ⟨ad244, e244, hx244_0⟩ := Kd.at_bool HR2.out t243 p244 q244; (try rw [← Nbq12.out] at hx244_0); cases e244; replace hx244_0 := swB HB.out hx244_0; replace p244 := eq_true p244; replace q244 := eq_true q244) | ((with_reducible refine gate_builtin (b := .append) (xs := #[.tmp 32, .tmp 34]) rfl ?_); at_builtin; refine Kd.R_append (Kd.int .i64) (w0 := w) w.heap.size rfl (.tmp 32) (.tmp 34) 24 3 (.int .i64 0) 8 rfl Try.underlying24 info3 rfl (by decide) (by omega) u7 x7_1 x8_1 [.int .i64 x8_1] (fun _ => True) (fun _ => False) rfl rfl ?aP (fun _ hk => hk.elim) ?aF ?aO ?aB ?aS ?aL ?_; (case aP => exact rfl); (case aB => exact (by repeat ((with_reducible first | exact HB.out | apply pw_below_drewN)))); (case aF => exact (fun _ _ => trivial)); (case aO => exact (by (with_reducible repeat (apply Kd.R_drewN)); exact HO_7.out)); (case aS => exact (below_size (by repeat ((with_reducible first | exact HB.out | apply pw_below_drewN))))); (case aL => have := LMc15.out; omega); intro v246 w17 ho hb hg hat; rw [← Ny245.out] at ho; replace BK239 := aM (blk_grown (g := gb239) (o := .cells #[.slice A0_0 l0_0.length c0_0, .slice A0_1 l0_1.length c0_1, .slice A0_2 l0_2.length c0_2, .slice A0_3 l0_3.length c0_3, .slice A0_4 l0_4.length c0_4, .slice A0_5 l0_5.length c0_5] 38 (0, 0)) (by (with_reducible repeat (refine blk_drewN ?_ _)); exact BK239.out) hg (Kd.R_ne HO_7.out BK239.out (by decide))); replace HB := aM (hb); have HO247 := aM (ho); clear HO_7; clear ho hb hg hat))
  go_roundg k1
  case measure => have := HK1.out; omega
  case rel => exact ⟨(y245), (wrap64 (x8_1 + 1)), (by rfl), H', ⟨by have := HK1.out; omega⟩, ⟨by exact HO247.out⟩, ⟨by exact BK239.out⟩, ⟨by repeat ((with_reducible exact HB.out))⟩⟩
def spec_l07Has.l0 : Nat → List Int → Int → Int → Option (Int)
 | 0, _, _, _ => none
 | k + 1, x0, x1, x5 => if x5 < (x0.length : Int) then (if 0 ≤ x5 then (if (rd x0 x5) = x1 then (some x5) else (spec_l07Has.l0 k x0 x1 (wrap64 (x5 + 1)))) else (none)) else (some (-1))
def spec_l07Has.f (k : Nat) (l0 : List Int) (a1 : Int) : Option (Int) := spec_l07Has.l0 k l0 a1 0
theorem spec_l07Has.calls (k : Nat) (A0 : Option Addr) (c0 : Nat) (l0 : List Int) (a1 : Int) (r : Int) (w : World) (hr0 : Kd.C (Kd.int .i64) w A0 l0.length l0) (hc0 : l0.length ≤ c0) (h : spec_l07Has.f k l0 a1 = some r) :
  Calls Try.prog 99 #[.slice A0 l0.length c0, .int .i64 a1] w fun e w' => e = .returned (.int .i64 r) ∧ Drawn0 w w' := by
 have HR0 := aM hr0
 have HC0 := aM hc0
 clear hr0 hc0
 have H : (spec_l07Has.l0 k l0 a1 0) = some r := h
 clear h
 have H' := aM H
 clear H
 go_enter Try.func99, Try.ntmps99
 go_wp2
 go_loopg [5] k (fun kq v5 w' => ∃ (x5_1 : Int), v5 = .int .i64 x5_1 ∧ Aside0 (spec_l07Has.l0 kq l0 a1 x5_1 = some r) ∧ Aside0 (kq ≤ k) ∧ Drawn0 w w')
 case atStart => exact ⟨(0), (by rfl), H', ⟨Nat.le_refl _⟩, by repeat (exact Drawn0.refl _)⟩
 clear H'
 obtain ⟨x5_1, rfl, HA, HK1, ⟨m1, rfl⟩⟩ := hrel
 cases gk with
 | zero => exact absurd HA.out (by simp [spec_l07Has.l0])
 | succ k1 =>
  have H := HA.out
  clear HA
  simp only [spec_l07Has.l0] at H
  by_cases c3 : x5_1 < (l0.length : Int)
  rotate_left
  ·rw [if_neg c3] at H
   have c3b0 : decide (x5_1 < (l0.length : Int)) = false := decide_eq_false c3
   clear c3
   obtain rfl := Option.some.inj H
   go_wp2
   go_ret
   exact ⟨by rfl, by repeat (first | exact Drawn0.refl _ | apply Drawn0.step)⟩
  rw [if_pos c3] at H
  have c3b0 : decide (x5_1 < (l0.length : Int)) = true := decide_eq_true c3
  clear c3
  by_cases c4 : 0 ≤ x5_1
  rotate_left
  ·rw [if_neg c4] at H
   exact absurd H (by simp)
  rw [if_pos c4] at H
  have c4b0 : decide (0 ≤ x5_1) = true := decide_eq_true c4
  clear c4
  by_cases c5 : (rd l0 x5_1) = a1
  ·rw [if_pos c5] at H
   have c5b0 : ((rd l0 x5_1) == a1) = true := beq_iff_eq.mpr c5
   have c5b1 : ((rd l0 x5_1) != a1) = false := bne_eq_false_iff_eq.mpr c5
   clear c5
   obtain rfl := Option.some.inj H
   have p248 : 0 ≤ (x5_1 : Int) := oD ‹_›
   have q248 : x5_1 < (l0.length : Int) := oD ‹_›
   obtain ⟨ad248, e248, hx248_0⟩ := Kd.at_int HR0.out x5_1 p248 q248
   cases e248
   replace p248 := eq_true p248
   replace q248 := eq_true q248
   go_wp2
   go_ret
   exact ⟨by rfl, by repeat (first | exact Drawn0.refl _ | apply Drawn0.step)⟩
  rw [if_neg c5] at H
  have c5b0 : ((rd l0 x5_1) == a1) = false := beq_eq_false_iff_ne.mpr c5
  have c5b1 : ((rd l0 x5_1) != a1) = true := bne_iff_ne.mpr c5
  have H' := aM H
  clear H
  have p248 : 0 ≤ (x5_1 : Int) := oD ‹_›
  have q248 : x5_1 < (l0.length : Int) := oD ‹_›
  obtain ⟨ad248, e248, hx248_0⟩ := Kd.at_int HR0.out x5_1 p248 q248
  cases e248
  replace p248 := eq_true p248
  replace q248 := eq_true q248
  go_wp2
  go_roundg k1
  case measure => have := HK1.out; omega
  case rel => exact ⟨(wrap64 (x5_1 + 1)), (by rfl), H', ⟨by have := HK1.out; omega⟩, by repeat (first | exact Drawn0.refl _ | apply Drawn0.step)⟩
def spec_l07Through.l0 : Nat → List (S80) → Int → Int → Int → Option (Bool)
 | 0, _, _, _, _ => none
 | k + 1, x0, x2, x7, x8 => if x8 ≤ (x0.length : Int) then (if x7 = x2 then (some true) else (if x7 < 0 then (some false) else (if 0 ≤ x7 then (if x7 < (x0.length : Int) then (if ((rd_T80 x0 x7).f0) < 0 then (some false) else (spec_l07Through.l0 k x0 x2 ((rd_T80 x0 x7).f0) (wrap64 (x8 + 1)))) else (none)) else (none)))) else (some true)
def spec_l07Through.f (k : Nat) (l0 : List (S80)) (a1 : Int) (a2 : Int) : Option (Bool) := spec_l07Through.l0 k l0 a2 a1 0
theorem spec_l07Through.calls (k : Nat) (A0 : Option Addr) (c0 : Nat) (l0 : List (S80)) (a1 : Int) (a2 : Int) (r : Bool) (w : World) (hr0 : Kd.C k80 w A0 l0.length l0) (hc0 : l0.length ≤ c0) (h : spec_l07Through.f k l0 a1 a2 = some r) :
  Calls Try.prog 100 #[.slice A0 l0.length c0, .int .i64 a1, .int .i64 a2] w fun e w' => e = .returned (.bool r) ∧ Drawn0 w w' := by
 have HR0 := aM hr0
 have HC0 := aM hc0
 clear hr0 hc0
 have H : (spec_l07Through.l0 k l0 a2 a1 0) = some r := h
 clear h
 have H' := aM H
 clear H
 go_enter Try.func100, Try.ntmps100
 go_wp2
 go_loopg [7, 8] k (fun kq v7 v8 w' => ∃ (x7_1 : Int) (x8_1 : Int), v7 = .int .i64 x7_1 ∧ v8 = .int .i64 x8_1 ∧ Aside0 (spec_l07Through.l0 kq l0 a2 x7_1 x8_1 = some r) ∧ Aside0 (kq ≤ k) ∧ Drawn0 w w')
 case atStart => exact ⟨(a1), (0), (by rfl), (by rfl), H', ⟨Nat.le_refl _⟩, by repeat (exact Drawn0.refl _)⟩
 clear H'
 obtain ⟨x7_1, x8_1, rfl, rfl, HA, HK1, ⟨m1, rfl⟩⟩ := hrel
 cases gk with
 | zero => exact absurd HA.out (by simp [spec_l07Through.l0])
 | succ k1 =>
  have H := HA.out
  clear HA
  simp only [spec_l07Through.l0] at H
  by_cases c4 : x8_1 ≤ (l0.length : Int)
  rotate_left
  ·rw [if_neg c4] at H
   have c4b0 : decide (x8_1 ≤ (l0.length : Int)) = false := decide_eq_false c4
   clear c4
   obtain rfl := Option.some.inj H
   go_wp2
   go_ret
   exact ⟨by rfl, by repeat (first | exact Drawn0.refl _ | apply Drawn0.step)⟩
  rw [if_pos c4] at H
  have c4b0 : decide (x8_1 ≤ (l0.length : Int)) = true := decide_eq_true c4
  clear c4
  by_cases c5 : x7_1 = a2
  ·rw [if_pos c5] at H
   have c5b0 : (x7_1 == a2) = true := beq_iff_eq.mpr c5
   have c5b1 : (x7_1 != a2) = false := bne_eq_false_iff_eq.mpr c5
   clear c5
   obtain rfl := Option.some.inj H
   go_wp2
   go_ret
   exact ⟨by rfl, by repeat (first | exact Drawn0.refl _ | apply Drawn0.step)⟩
  rw [if_neg c5] at H
  have c5b0 : (x7_1 == a2) = false := beq_eq_false_iff_ne.mpr c5
  have c5b1 : (x7_1 != a2) = true := bne_iff_ne.mpr c5
  by_cases c6 : x7_1 < 0
  ·rw [if_pos c6] at H
   have c6b0 : decide (x7_1 < 0) = true := decide_eq_true c6
   clear c6
   obtain rfl := Option.some.inj H
   go_wp2
   go_ret
   exact ⟨by rfl, by repeat (first | exact Drawn0.refl _ | apply Drawn0.step)⟩
  rw [if_neg c6] at H
  have c6b0 : decide (x7_1 < 0) = false := decide_eq_false c6
  clear c6
  by_cases c7 : 0 ≤ x7_1
  rotate_left
  ·rw [if_neg c7] at H
   exact absurd H (by simp)
  rw [if_pos c7] at H
  have c7b0 : decide (0 ≤ x7_1) = true := decide_eq_true c7
  clear c7
  by_cases c8 : x7_1 < (l0.length : Int)
  rotate_left
  ·rw [if_neg c8] at H
   exact absurd H (by simp)
  rw [if_pos c8] at H
  have c8b0 : decide (x7_1 < (l0.length : Int)) = true := decide_eq_true c8
  clear c8
  by_cases c9 : ((rd_T80 l0 x7_1).f0) < 0
  ·rw [if_pos c9] at H
   have c9b0 : decide (((rd_T80 l0 x7_1).f0) < 0) = true := decide_eq_true c9
   clear c9
   obtain rfl := Option.some.inj H
   have p249 : 0 ≤ (x7_1 : Int) := oD ‹_›
   have q249 : x7_1 < (l0.length : Int) := oD ‹_›
   obtain ⟨ad249, e249, hx249_0, hx249_1, hx249_2, hx249_3⟩ := at_T80 HR0.out x7_1 p249 q249
   cases e249
   replace p249 := eq_true p249
   replace q249 := eq_true q249
   go_wp2
   go_ret
   exact ⟨by rfl, by repeat (first | exact Drawn0.refl _ | apply Drawn0.step)⟩
  rw [if_neg c9] at H
  have c9b0 : decide (((rd_T80 l0 x7_1).f0) < 0) = false := decide_eq_false c9
  clear c9
  have H' := aM H
  clear H
  have p249 : 0 ≤ (x7_1 : Int) := oD ‹_›
  have q249 : x7_1 < (l0.length : Int) := oD ‹_›
  obtain ⟨ad249, e249, hx249_0, hx249_1, hx249_2, hx249_3⟩ := at_T80 HR0.out x7_1 p249 q249
  cases e249
  replace p249 := eq_true p249
  replace q249 := eq_true q249
  have p250 : 0 ≤ (x7_1 : Int) := oD ‹_›
  have q250 : x7_1 < (l0.length : Int) := oD ‹_›
  obtain ⟨ad250, e250, hx250_0, hx250_1, hx250_2, hx250_3⟩ := at_T80 HR0.out x7_1 p250 q250
  obtain rfl : ad249 = ad250 := (by injection e250)
  replace p250 := eq_true p250
  replace q250 := eq_true q250
  go_wp2
  go_roundg k1
  case measure => have := HK1.out; omega
  case rel => exact ⟨((rd_T80 l0 x7_1).f0), (wrap64 (x8_1 + 1)), (by rfl), (by rfl), H', ⟨by have := HK1.out; omega⟩, by repeat (first | exact Drawn0.refl _ | apply Drawn0.step)⟩
theorem box4 {W : World} {g : Nat} {t : TypeId} {v0 v1 v2 v3 : Value} (h : W.heap[g]? = some (.cells #[v0, v1, v2, v3] t (0, 0))) : W.cell? ⟨g, 0, none⟩ = some v0 ∧ W.cell? ⟨g, 1, none⟩ = some v1 ∧ W.cell? ⟨g, 2, none⟩ = some v2 ∧ W.cell? ⟨g, 3, none⟩ = some v3 :=
 ⟨(blk_cell h 0).trans rfl, (blk_cell h 1).trans rfl, (blk_cell h 2).trans rfl, (blk_cell h 3).trans rfl⟩
theorem box5 {W : World} {g : Nat} {t : TypeId} {v0 v1 v2 v3 v4 : Value} (h : W.heap[g]? = some (.cells #[v0, v1, v2, v3, v4] t (0, 0))) : W.cell? ⟨g, 0, none⟩ = some v0 ∧ W.cell? ⟨g, 1, none⟩ = some v1 ∧ W.cell? ⟨g, 2, none⟩ = some v2 ∧ W.cell? ⟨g, 3, none⟩ = some v3 ∧ W.cell? ⟨g, 4, none⟩ = some v4 :=
 ⟨(blk_cell h 0).trans rfl, (blk_cell h 1).trans rfl, (blk_cell h 2).trans rfl, (blk_cell h 3).trans rfl, (blk_cell h 4).trans rfl⟩
theorem boxv5 {W : World} {g : Nat} {t : TypeId} {u0 u1 u2 u3 u4 v0 v1 v2 v3 v4 : Value} (hb : W.heap[g]? = some (.cells #[u0, u1, u2, u3, u4] t (0, 0))) : (((((W.setCell ⟨g, 0, none⟩ v0).setCell ⟨g, 1, none⟩ v1).setCell ⟨g, 2, none⟩ v2).setCell ⟨g, 3, none⟩ v3).setCell ⟨g, 4, none⟩ v4).heap[g]? = some (.cells #[v0, v1, v2, v3, v4] t (0, 0)) ∧ Kept W (((((W.setCell ⟨g, 0, none⟩ v0).setCell ⟨g, 1, none⟩ v1).setCell ⟨g, 2, none⟩ v2).setCell ⟨g, 3, none⟩ v3).setCell ⟨g, 4, none⟩ v4) (fun k => k = g) ∧ ∀ w0 : World, Below w0.heap.size w0 W → w0.heap.size ≤ g → Below w0.heap.size w0 (((((W.setCell ⟨g, 0, none⟩ v0).setCell ⟨g, 1, none⟩ v1).setCell ⟨g, 2, none⟩ v2).setCell ⟨g, 3, none⟩ v3).setCell ⟨g, 4, none⟩ v4) := by
 have hs : ∀ (V : World) (i : Nat) (u : Value), Kept V (V.setCell ⟨g, i, none⟩ u) (fun k => k = g) := fun V i u => Kept.setCell (S := fun k => k = g) (p := ⟨g, i, none⟩) (Kept.refl V _) (.inl rfl) u
 exact ⟨(blk_put (cs' := #[v0, v1, v2, v3, v4]) (blk_put (cs' := #[v0, v1, v2, v3, u4]) (blk_put (cs' := #[v0, v1, v2, u3, u4]) (blk_put (cs' := #[v0, v1, u2, u3, u4]) (blk_put (cs' := #[v0, u1, u2, u3, u4]) hb 0 _ rfl) 1 _ rfl) 2 _ rfl) 3 _ rfl) 4 _ rfl), (((((hs _ 0 _).then_ (hs _ 1 _) (fun _ h => .inl h)).then_ (hs _ 2 _) (fun _ h => .inl h)).then_ (hs _ 3 _) (fun _ h => .inl h)).then_ (hs _ 4 _) (fun _ h => .inl h)), fun w0 h1 h2 => (below_set (below_set (below_set (below_set (below_set h1 h2) h2) h2) h2) h2)⟩
theorem boxf {W : World} {g i : Nat} {t : TypeId} {v : Value} {cs cs' : Array Value} (hb : W.heap[g]? = some (.cells cs t (0, 0))) (he : cs.setIfInBounds i v = cs') : (W.setCell ⟨g, i, none⟩ v).heap[g]? = some (.cells cs' t (0, 0)) ∧ Kept W (W.setCell ⟨g, i, none⟩ v) (fun k => k = g) ∧ ∀ w0 : World, Below w0.heap.size w0 W → w0.heap.size ≤ g → Below w0.heap.size w0 (W.setCell ⟨g, i, none⟩ v) :=
 ⟨blk_put hb i v he, Kept.setCell (S := fun k => k = g) (p := ⟨g, i, none⟩) (Kept.refl W _) (.inl rfl) v, fun w0 h1 h2 => below_set h1 h2⟩
def s101_1_T : Bool × List (List Nat × List Nat) := (true, [([], []), ([], []), ([1], [1]), ([], []), ([3], [3]), ([], []), ([5], [5]), ([], []), ([], []), ([6, 7, 8], [6, 7, 8]), ([4, 9], [4, 9]), ([10], [10]), ([11], [11]), ([2, 12], [2, 12]), ([], []), ([14], [14]), ([0, 13, 15], [0, 13, 15]), ([], []), ([17, 16, 9, 0, 1, 2, 3, 4, 5, 6, 7, 8, 9, 10, 11, 12, 13, 14, 15, 16, 17], [16, 17])])
theorem s101_1_tab : rtab .any (opsOf Try.f101 1) = s101_1_T := by kernel_rfl
def impO (a b : Int) : List S95 → Int → Bool → Option (Int × Bool)
 | [], p, m => some (p, m)
 | x :: r, p, m => if ((((x.f0 != a) || (x.f1 != b)) || ((x.f2 == 1) && (!m))) || ((x.f2 == 2) && m)) = true then impO a b r p m else (if (x.f3 == 1) = true then none else (if (x.f3 == 2) = true then impO a b r x.f4 m else impO a b r p (x.f3 == 3)))
def resO (a L : Int) : Option (Int × Bool) → Int × Int × Int × Bool
 | none => (-3, 0, 0, false)
 | some q => (a, q.1, L, q.2)
def spec_l07Import.f (k : Nat) (l0_0 : List ByteArray) (l0_1 : List S92) (l0_2 : List Int) (l0_3 : List Int) (l0_4 : List S95) (l0_5 : List S97) (a1 : Int) (a2 : Int) (a3_0 : Int) (a3_1 : Int) (a3_2 : Int) (a3_3 : Bool) : Option (Int × Int × Int × Bool) := (spec_l06Link.f k l0_1 a1 a2).bind fun t => if 0 ≤ t ∧ t < (l0_1.length : Int) then some (resO a2 (wrap64 (a3_2 + (rd_T92 l0_1 t).f2)) (impO a1 a2 l0_4 100 a3_3)) else none
theorem spec_l07Import.calls (k : Nat) (A0_0 : Option Addr) (c0_0 : Nat) (l0_0 : List ByteArray) (A0_1 : Option Addr) (c0_1 : Nat) (l0_1 : List S92) (A0_2 : Option Addr) (c0_2 : Nat) (l0_2 : List Int) (A0_3 : Option Addr) (c0_3 : Nat) (l0_3 : List Int) (A0_4 : Option Addr) (c0_4 : Nat) (l0_4 : List S95) (A0_5 : Option Addr) (c0_5 : Nat) (l0_5 : List S97) (a1 : Int) (a2 : Int) (a3_0 : Int) (a3_1 : Int) (a3_2 : Int) (a3_3 : Bool) (r1 : Int) (r2 : Int) (r3 : Int) (r4 : Bool) (w : World) (hr0_0 : Kd.C Kd.string w A0_0 l0_0.length l0_0) (hc0_0 : l0_0.length ≤ c0_0) (hr0_1 : Kd.C k92 w A0_1 l0_1.length l0_1) (hc0_1 : l0_1.length ≤ c0_1) (hr0_2 : Kd.C (Kd.int .i64) w A0_2 l0_2.length l0_2) (hc0_2 : l0_2.length ≤ c0_2) (hr0_3 : Kd.C (Kd.int .i64) w A0_3 l0_3.length l0_3) (hc0_3 : l0_3.length ≤ c0_3) (hr0_4 : Kd.C k95 w A0_4 l0_4.length l0_4) (hc0_4 : l0_4.length ≤ c0_4) (hr0_5 : Kd.C k97 w A0_5 l0_5.length l0_5) (hc0_5 : l0_5.length ≤ c0_5) (h : spec_l07Import.f k l0_0 l0_1 l0_2 l0_3 l0_4 l0_5 a1 a2 a3_0 a3_1 a3_2 a3_3 = some (r1, r2, r3, r4)) :
  Calls Try.prog 101 #[.agg #[.slice A0_0 l0_0.length c0_0, .slice A0_1 l0_1.length c0_1, .slice A0_2 l0_2.length c0_2, .slice A0_3 l0_3.length c0_3, .slice A0_4 l0_4.length c0_4, .slice A0_5 l0_5.length c0_5], .int .i64 a1, .int .i64 a2, .agg #[.int .i64 a3_0, .int .i64 a3_1, .int .i64 a3_2, .bool a3_3]] w fun e w' => e = .returned (.agg #[.int .i64 r1, .int .i64 r2, .int .i64 r3, .bool r4]) ∧ Below w.heap.size w w' := by
 have hu38 := Try.underlying38
 have hu80 := Try.underlying80
 have hu92 := Try.underlying92
 have hu95 := Try.underlying95
 have HN : Aside0 (Kd.C Kd.string w A0_0 l0_0.length l0_0 ∧ l0_0.length ≤ c0_0 ∧ Kd.C k92 w A0_1 l0_1.length l0_1 ∧ l0_1.length ≤ c0_1 ∧ Kd.C (Kd.int .i64) w A0_2 l0_2.length l0_2 ∧ l0_2.length ≤ c0_2 ∧ Kd.C (Kd.int .i64) w A0_3 l0_3.length l0_3 ∧ l0_3.length ≤ c0_3 ∧ Kd.C k95 w A0_4 l0_4.length l0_4 ∧ l0_4.length ≤ c0_4 ∧ Kd.C k97 w A0_5 l0_5.length l0_5 ∧ l0_5.length ≤ c0_5) := ⟨hr0_0, hc0_0, hr0_1, hc0_1, hr0_2, hc0_2, hr0_3, hc0_3, hr0_4, hc0_4, hr0_5, hc0_5⟩
 have HM : Aside0 (l0_1.length ≤ 9223372036854775807 ∧ l0_4.length ≤ 9223372036854775807) := ⟨Kd.C_max hr0_1, Kd.C_max hr0_4⟩
 clear hr0_0 hc0_0 hr0_1 hc0_1 hr0_2 hc0_2 hr0_3 hc0_3 hr0_4 hc0_4 hr0_5 hc0_5
 have HB := aM (Below.refl w.heap.size w)
 unfold spec_l07Import.f at h
 replace h := Option.bind_eq_some_iff.1 h
 obtain ⟨t, ht, h⟩ := h
 by_cases hbd : 0 ≤ t ∧ t < (l0_1.length : Int)
 rotate_left
 ·rw [if_neg hbd] at h
  cases h
 rw [if_pos hbd] at h
 obtain ⟨ad, ea, hy0, hy1, hy2⟩ := at_T92 HN.out.2.2.1 t hbd.1 hbd.2
 cases ea
 have HCO := aM hy2
 have HMB := aM hbd
 replace h := Option.some.inj h
 generalize rd_T92 l0_1 t = y at h HCO
 obtain ⟨y0, y1, cost⟩ := y
 dsimp only at h HCO
 obtain ⟨R, hR⟩ : ∃ R, impO a1 a2 l0_4 100 a3_3 = R := ⟨_, rfl⟩
 rw [hR] at h
 have HR := aM h
 have HI : Aside0 (impO a1 a2 (l0_4.drop 0) 100 a3_3 = R) := ⟨by rw [List.drop_zero]; exact hR⟩
 have HC : Aside0 (∀ V : World, Below w.heap.size w V → Calls Try.prog 61 #[.slice (some ad) l0_1.length c0_1, .int .i64 a1, .int .i64 a2] V fun e w' => e = .returned (.int .i64 t) ∧ Drawn0 V w') := ⟨fun V hV => spec_l06Link.calls k (some ad) c0_1 l0_1 a1 a2 _ V (Kd.C_below HN.out.2.2.1 hV) HN.out.2.2.2.1 ht⟩
 clear hy0 hy1 hy2 h hR ht hbd
 go_enter Try.func101, Try.ntmps101
 go_wp2_with (first | ((with_reducible refine gate_dst (N := 4) rfl ?_); refine box_event rfl (N := 4) rfl (cs := #[.slice A0_0 l0_0.length c0_0, .slice (some ad) l0_1.length c0_1, .slice A0_2 l0_2.length c0_2, .slice A0_3 l0_3.length c0_3, .slice A0_4 l0_4.length c0_4, .slice A0_5 l0_5.length c0_5]) (t := 38) (by go_simp; done) ?_; intro gN hg_ wN hbox hbb; have GEN := aM (show w.heap.size ≤ gN by rw [hg_]; exact HB.out.size); replace HB := aM (HB.out.trans (hbb.mono HB.out.size)); clear hbb hg_; have BN := aM hbox; clear hbox; obtain ⟨cN0, cN1, cN2, cN3, cN4, cN5⟩ := box6 BN.out) | ((with_reducible refine gate_dst (N := 7) rfl ?_); refine box_event rfl (N := 7) rfl (cs := #[.int .i64 a3_0, .int .i64 a3_1, .int .i64 a3_2, .bool a3_3]) (t := 80) (by go_simp; done) ?_; intro gP hg_ wP hbox hbb; clear cN0 cN1 cN2 cN3 cN4 cN5; have GEP := aM (show w.heap.size ≤ gP by rw [hg_]; exact HB.out.size); have NENP := aM (show gN ≠ gP by rw [hg_]; exact Nat.ne_of_lt (blk_lt BN.out)); replace HB := aM (HB.out.trans (hbb.mono HB.out.size)); replace BN := aM (blk_below BN.out hbb); clear hbb hg_; have BP := aM hbox; clear hbox; obtain ⟨cN0, cN1, cN2, cN3, cN4, cN5⟩ := box6 BN.out; obtain ⟨cP0, cP1, cP2, cP3⟩ := box4 BP.out) | ((with_reducible refine gate_dst (N := 8) rfl ?_); refine box_event rfl (N := 8) rfl (cs := #[.int .i64 0, .int .i64 0, .int .i64 0, .bool false]) (t := 80) (by go_simp; done) ?_; intro gO hg_ wO hbox hbb; clear cN0 cN1 cN2 cN3 cN4 cN5 cP0 cP1 cP2 cP3; have GEO := aM (show w.heap.size ≤ gO by rw [hg_]; exact HB.out.size); have NENO := aM (show gN ≠ gO by rw [hg_]; exact Nat.ne_of_lt (blk_lt BN.out)); have NEPO := aM (show gP ≠ gO by rw [hg_]; exact Nat.ne_of_lt (blk_lt BP.out)); replace HB := aM (HB.out.trans (hbb.mono HB.out.size)); replace BN := aM (blk_below BN.out hbb); replace BP := aM (blk_below BP.out hbb); clear hbb hg_; have BO := aM hbox; clear hbox; obtain ⟨cN0, cN1, cN2, cN3, cN4, cN5⟩ := box6 BN.out; obtain ⟨cP0, cP1, cP2, cP3⟩ := box4 BP.out; obtain ⟨cO0, cO1, cO2, cO3⟩ := box4 BO.out))
 clear cN0 cN1 cN2 cN3 cN4 cN5 cP0 cP1 cP2 cP3 cO0 cO1 cO2 cO3
 have HW : ∀ W, Below wO.drew.heap.size wO.drew W → Below w.heap.size w W := fun W hW => (below_drew1 HB.out).trans (hW.mono HB.out.size)
 have dN := fun (W : World) (hW : Below wO.drew.heap.size wO.drew W) => blk_below (blk_drew BN.out) hW
 have dP := fun (W : World) (hW : Below wO.drew.heap.size wO.drew W) => blk_below (blk_drew BP.out) hW
 have dO := fun (W : World) (hW : Below wO.drew.heap.size wO.drew W) => blk_below (blk_drew BO.out) hW
 refine any_tail [some 12, some 13, some 14, some 15, some 16, some 17, some 18, some 19, some 20, some 21, some 22, some 23, some 24, some 25, some 26, some 27, some 28, some 9, none] 85 18 [0, 0, 2, 0, 8, 0, 32, 0, 0, 480, 1016, 2040, 4088, 8190, 0, 16384, 65535, 0, 262143] [VP.eq (.int .i64 (a2)), VP.eq (.pointer (some ⟨gP, 2, none⟩)), VP.eq (.int .i64 (a3_2)), VP.eq (.pointer (some ⟨gN, 1, none⟩)), VP.eq (.slice (some ad) l0_1.length c0_1), VP.eq (.pointer (some ⟨gN, 1, none⟩)), VP.eq (.slice (some ad) l0_1.length c0_1), VP.eq (.int .i64 (a1)), VP.eq (.int .i64 (a2)), VP.eq (.int .i64 (t)), VP.eq (.pointer (some (ad.add (t.toNat * 3)))), VP.eq (.pointer (some (⟨(ad.add (t.toNat * 3)).block, (ad.add (t.toNat * 3)).off + 2, none⟩))), VP.eq (.int .i64 (cost)), VP.eq (.int .i64 (wrap64 (a3_2 + cost))), VP.eq (.pointer (some ⟨gP, 3, none⟩)), VP.eq (.bool (a3_3)), VP.eq (.agg #[.int .i64 (a2), .int .i64 (100), .int .i64 (wrap64 (a3_2 + cost)), .bool (a3_3)]), VP.box (wO.heap.size) #[.int .i64 0, .int .i64 0, .int .i64 0, .bool false] 80] rfl s101_1_tab rfl rfl (by kernel_rfl) rfl ⟨?_, ?_, ?_, ?_, ?_, ?_, ?_, ?_, ?_, ?_, ?_, ?_, ?_, ?_, ?_, ?_, ?_, ?_, trivial⟩ ?_
 ·exact fun _ W _ hW _ hb hd _ hK _ => gd_step (C := true) wn_ (fun _ => x_move rfl (hb 2)) (hK _ W rfl (Below.refl _ _))
 ·exact fun _ W _ hW _ hb hd _ hK _ => gd_step (C := true) wn_ (fun _ => x_fa80 rfl (oD (by kernel_rfl)) (hb 7)) (hK _ W rfl (Below.refl _ _))
 ·exact fun _ W _ hW _ hb hd _ hK _ => gd_step (C := true) wn_ (fun _ => x_ld3 rfl (hd 1 13) ((blk_cell (dP W hW) 2).trans rfl)) (hK _ W rfl (Below.refl _ _))
 ·exact fun _ W _ hW _ hb hd _ hK _ => gd_step (C := true) wn_ (fun _ => x_fa38 rfl (oD (by kernel_rfl)) (hb 4)) (hK _ W rfl (Below.refl _ _))
 ·exact fun _ W _ hW _ hb hd _ hK _ => gd_step (C := true) wn_ (fun _ => x_ld34 rfl (hd 3 15) ((blk_cell (dN W hW) 1).trans rfl)) (hK _ W rfl (Below.refl _ _))
 ·exact fun _ W _ hW _ hb hd _ hK _ => gd_step (C := true) wn_ (fun _ => x_fa38 rfl (oD (by kernel_rfl)) (hb 4)) (hK _ W rfl (Below.refl _ _))
 ·exact fun _ W _ hW _ hb hd _ hK _ => gd_step (C := true) wn_ (fun _ => x_ld34 rfl (hd 5 17) ((blk_cell (dN W hW) 1).trans rfl)) (hK _ W rfl (Below.refl _ _))
 ·exact fun _ W _ hW _ hb hd _ hK _ => gd_step (C := true) wn_ (fun _ => x_move rfl (hb 1)) (hK _ W rfl (Below.refl _ _))
 ·exact fun _ W _ hW _ hb hd _ hK _ => gd_step (C := true) wn_ (fun _ => x_move rfl (hb 2)) (hK _ W rfl (Below.refl _ _))
 ·intro bq W B hW hB hb hd K hK hK2; exact gc_step (C := true) wn_ (fun _ => ⟨x_call Try.func61 (by kernel_rfl) rfl rfl (args3 (hd 6 18) (hd 7 19) (hd 8 20)), (HC.out W (HW W hW)).mono (fun e_ W_ h_ => ⟨h_.1, h_.2.below⟩)⟩) (fun W_ hb_ => hK _ W_ rfl hb_)
 ·exact fun _ W _ hW _ hb hd _ hK _ => gd_step (C := true) wn_ (fun _ => x_ix34 rfl (hd 4 16) (hd 9 21) HMB.out.1 HMB.out.2 HM.out.1) (hK _ W rfl (Below.refl _ _))
 ·exact fun _ W _ hW _ hb hd _ hK _ => gd_step (C := true) wn_ (fun _ => x_fb92 rfl (hd 10 22)) (hK _ W rfl (Below.refl _ _))
 ·exact fun _ W _ hW _ hb hd _ hK _ => gd_step (C := true) wn_ (fun _ => x_ld3 rfl (hd 11 23) (((HW W hW).cell (World.block_lt_of_cell? w _ HCO.out)).trans HCO.out)) (hK _ W rfl (Below.refl _ _))
 ·exact fun _ W _ hW _ hb hd _ hK _ => gd_step (C := true) wn_ (fun _ => x_add rfl (hd 2 14) (hd 12 24) (i64_w _)) (hK _ W rfl (Below.refl _ _))
 ·exact fun _ W _ hW _ hb hd _ hK _ => gd_step (C := true) wn_ (fun _ => x_fa80 rfl (oD (by kernel_rfl)) (hb 7)) (hK _ W rfl (Below.refl _ _))
 ·exact fun _ W _ hW _ hb hd _ hK _ => gd_step (C := true) wn_ (fun _ => x_ld4 rfl (hd 14 26) ((blk_cell (dP W hW) 3).trans rfl)) (hK _ W rfl (Below.refl _ _))
 ·exact fun _ W _ hW _ hb hd _ hK _ => gd_step (C := true) wn_ (fun _ => x_bdr rfl (hd 0 12) (hd 13 25) (hd 15 27)) (hK _ W rfl (Below.refl _ _))
 ·intro bq W B hW hB hb hd K hK hK2; refine al_step80 rfl rfl (fun W' h_ hb_ hl_ => hK2 _ W' ?_ hb_ hl_); obtain ⟨g_, e_, h1_, h2_, h3_⟩ := h_; exact ⟨g_, e_, Nat.le_trans hW.size h1_, .inr h2_, h3_⟩
 intro vals F W B hF hW hBB hV
 obtain ⟨gX, e9, hg9, -, hx9⟩ := hV 17 9 (oD (by kernel_rfl)) rfl
 have e28 : vals 28 = .agg #[.int .i64 a2, .int .i64 100, .int .i64 (wrap64 (a3_2 + cost)), .bool a3_3] := hV 16 28 (oD (by kernel_rfl)) rfl
 have GEX := aM (Nat.le_trans HB.out.size hg9)
 have NENX := aM (show gN ≠ gX from Nat.ne_of_lt (Nat.lt_of_lt_of_le (blk_lt BN.out) hg9))
 have NEPX := aM (show gP ≠ gX from Nat.ne_of_lt (Nat.lt_of_lt_of_le (blk_lt BP.out) hg9))
 have NEOX := aM (show gO ≠ gX from Nat.ne_of_lt (Nat.lt_of_lt_of_le (blk_lt BO.out) hg9))
 replace HB := aM (HW W hW)
 replace BN := aM (dN W hW)
 replace BP := aM (dP W hW)
 replace BO := aM (dO W hW)
 have BX := aM hx9
 clear hV hBB hg9 hx9 hW HW dN dP dO
 rw [hF]
 clear hF
 simp only [List.take, fillA, Act.put, List.setIfInBounds_toArray, List.set_cons_zero, List.set_cons_succ, List.drop_succ_cons, List.drop_zero, e9, e28]
 clear e9 e28 BP
 obtain ⟨cN0, cN1, cN2, cN3, cN4, cN5⟩ := box6 BN.out
 obtain ⟨cO0, cO1, cO2, cO3⟩ := box4 BO.out
 obtain ⟨cX0, cX1, cX2, cX3⟩ := box4 BX.out
 go_wp2_with (((with_reducible refine gate_store (t := 80) (p := 9) rfl ?_); have z0 := blk_frozen BX.out 0; have z1 := blk_frozen BX.out 1; have z2 := blk_frozen BX.out 2; have z3 := blk_frozen BX.out 3; refine store_event (t := 80) (p := 9) (v := .tmp 28) (w1 := ((((W.setCell ⟨gX, 0, none⟩ (.int .i64 a2)).setCell ⟨gX, 1, none⟩ (.int .i64 100)).setCell ⟨gX, 2, none⟩ (.int .i64 (wrap64 (a3_2 + cost)))).setCell ⟨gX, 3, none⟩ (.bool a3_3))) ?hg ?ho ?hn ?hr ?_; (case ho => rfl); (case hg => rfl); (case hn => rfl); (case hr => (go_simp; done)); clear z0 z1 z2 z3; clear cN0 cN1 cN2 cN3 cN4 cN5 cO0 cO1 cO2 cO3 cX0 cX1 cX2 cX3; intro w9 hw_; obtain ⟨hbk, hkb, hkw⟩ := boxv4 (v0 := .int .i64 a2) (v1 := .int .i64 100) (v2 := .int .i64 (wrap64 (a3_2 + cost))) (v3 := .bool a3_3) BX.out; rw [← hw_] at hbk hkb hkw; clear hw_; replace HB := aM (hkw _ HB.out GEX.out); replace BN := aM (blk_kept BN.out hkb (fun h_ => NENX.out h_)); replace BO := aM (blk_kept BO.out hkb (fun h_ => NEOX.out h_)); replace BX := aM (hbk); clear hbk hkb hkw; obtain ⟨cN0, cN1, cN2, cN3, cN4, cN5⟩ := box6 BN.out; obtain ⟨cO0, cO1, cO2, cO3⟩ := box4 BO.out; obtain ⟨cX0, cX1, cX2, cX3⟩ := box4 BX.out))
 clear cN0 cN1 cN2 cN3 cN4 cN5 cO0 cO1 cO2 cO3 cX0 cX1 cX2 cX3
 go_loopg [10] l0_4.length (fun gg sc wr => ∃ (kk : Nat) (p : Int) (m : Bool), kk ≤ l0_4.length ∧ l0_4.length - kk ≤ gg ∧ sc = .int .i64 kk ∧ Aside0 (Below w.heap.size w wr) ∧ Aside0 (wr.heap[gN]? = some (.cells #[.slice A0_0 l0_0.length c0_0, .slice (some ad) l0_1.length c0_1, .slice A0_2 l0_2.length c0_2, .slice A0_3 l0_3.length c0_3, .slice A0_4 l0_4.length c0_4, .slice A0_5 l0_5.length c0_5] 38 (0, 0))) ∧ Aside0 (wr.heap[gO]? = some (.cells #[.int .i64 0, .int .i64 0, .int .i64 0, .bool false] 80 (0, 0))) ∧ Aside0 (wr.heap[gX]? = some (.cells #[.int .i64 a2, .int .i64 p, .int .i64 (wrap64 (a3_2 + cost)), .bool m] 80 (0, 0))) ∧ Aside0 (impO a1 a2 (l0_4.drop kk) p m = R))
 case atStart => exact ⟨0, 100, a3_3, Nat.zero_le _, by omega, rfl, HB, BN, BO, BX, HI⟩
 clear HB BN BO BX HI
 obtain ⟨kk, p, m, hkk, hg, rfl, HB, BN, BO, BX, HI⟩ := hrel
 have hN := HI.out
 have HM0 := HM.out.2
 clear HI
 by_cases hlt : kk < l0_4.length
 rotate_left
 ·have hltz : ¬ (kk : Int) < (l0_4.length : Int) := by omega
  obtain rfl : kk = l0_4.length := by omega
  rw [List.drop_length, impO] at hN
  subst hN
  have hq := HR.out
  simp only [resO, Prod.mk.injEq] at hq
  obtain ⟨rfl, rfl, rfl, rfl⟩ := hq
  obtain ⟨cN0, cN1, cN2, cN3, cN4, cN5⟩ := box6 BN.out
  obtain ⟨cO0, cO1, cO2, cO3⟩ := box4 BO.out
  obtain ⟨cX0, cX1, cX2, cX3⟩ := box4 BX.out
  go_wp2_with (((with_reducible refine gate_store (t := 80) (p := 8) rfl ?_); have z0 := blk_frozen BO.out 0; have z1 := blk_frozen BO.out 1; have z2 := blk_frozen BO.out 2; have z3 := blk_frozen BO.out 3; refine store_event (t := 80) (p := 8) (v := .tmp 84) (w1 := ((((wr.setCell ⟨gO, 0, none⟩ (.int .i64 a2)).setCell ⟨gO, 1, none⟩ (.int .i64 p)).setCell ⟨gO, 2, none⟩ (.int .i64 (wrap64 (a3_2 + cost)))).setCell ⟨gO, 3, none⟩ (.bool m))) ?hg ?ho ?hn ?hr ?_; (case ho => rfl); (case hg => rfl); (case hn => rfl); (case hr => (go_simp; done)); clear z0 z1 z2 z3; clear cN0 cN1 cN2 cN3 cN4 cN5 cO0 cO1 cO2 cO3 cX0 cX1 cX2 cX3; intro wz hw_; obtain ⟨hbk, hkb, hkw⟩ := boxv4 (v0 := .int .i64 a2) (v1 := .int .i64 p) (v2 := .int .i64 (wrap64 (a3_2 + cost))) (v3 := .bool m) BO.out; rw [← hw_] at hbk hkb hkw; clear hw_; replace HB := aM (hkw _ HB.out GEO.out); replace BN := aM (blk_kept BN.out hkb (fun h_ => NENO.out h_)); replace BO := aM (hbk); replace BX := aM (blk_kept BX.out hkb (fun h_ => NEOX.out h_.symm)); clear hbk hkb hkw; obtain ⟨cN0, cN1, cN2, cN3, cN4, cN5⟩ := box6 BN.out; obtain ⟨cO0, cO1, cO2, cO3⟩ := box4 BO.out; obtain ⟨cX0, cX1, cX2, cX3⟩ := box4 BX.out))
  refine bodyPost_ret (results_cell_row rfl _ _ gO 80 #[.int .i64 a2, .int .i64 p, .int .i64 (wrap64 (a3_2 + cost)), .bool m] (0, 0) _ rfl BO.out Try.underlying80 rfl (by kernel_rfl)) rfl ?_
  exact ⟨rfl, HB.out⟩
 have hltz : (kk : Int) < (l0_4.length : Int) := by omega
 have hkc0 : (0 : Int) ≤ (kk : Int) := Int.natCast_nonneg _
 obtain ⟨ae, ea, hx0, hx1, hx2, hx3, hx4⟩ := at_T95 HN.out.2.2.2.2.2.2.2.2.1 (kk : Int) (by omega) (by omega)
 cases ea
 rw [Int.toNat_natCast] at hx0 hx1 hx2 hx3 hx4
 replace hx0 := swB HB.out hx0
 replace hx1 := swB HB.out hx1
 replace hx2 := swB HB.out hx2
 replace hx3 := swB HB.out hx3
 replace hx4 := swB HB.out hx4
 have hrd : rd_T95 l0_4 (kk : Int) = l0_4[kk] := by unfold rd_T95; simp [List.getD, hlt]
 rw [hrd] at hx0 hx1 hx2 hx3 hx4
 rw [List.drop_eq_getElem_cons hlt, impO] at hN
 have ew : IntKind.i64.wrap ((kk : Int) + 1) = ((kk + 1 : Nat) : Int) := IntWalk.i64_in _ (by omega)
 clear hrd
 generalize l0_4[kk] = x at hN hx0 hx1 hx2 hx3 hx4
 obtain ⟨x0, x1, x2, x3, x4⟩ := x
 dsimp only at hN hx0 hx1 hx2 hx3 hx4
 obtain ⟨cN0, cN1, cN2, cN3, cN4, cN5⟩ := box6 BN.out
 obtain ⟨cO0, cO1, cO2, cO3⟩ := box4 BO.out
 obtain ⟨cX0, cX1, cX2, cX3⟩ := box4 BX.out
 go_upto_region 6 with (first | ((with_reducible refine gate_dst (N := 11) rfl ?_); refine box_event rfl (N := 11) rfl (cs := #[.int .i64 0, .int .i64 0, .int .i64 0, .int .i64 0, .int .i64 0]) (t := 95) (by go_simp; done) ?_; intro gI hg_ wI hbox hbb; clear cN0 cN1 cN2 cN3 cN4 cN5 cO0 cO1 cO2 cO3 cX0 cX1 cX2 cX3; have GEI := aM (show w.heap.size ≤ gI by rw [hg_]; exact HB.out.size); have NENI := aM (show gN ≠ gI by rw [hg_]; exact Nat.ne_of_lt (blk_lt BN.out)); have NEOI := aM (show gO ≠ gI by rw [hg_]; exact Nat.ne_of_lt (blk_lt BO.out)); have NEXI := aM (show gX ≠ gI by rw [hg_]; exact Nat.ne_of_lt (blk_lt BX.out)); replace HB := aM (HB.out.trans (hbb.mono HB.out.size)); replace BN := aM (blk_below BN.out hbb); replace BO := aM (blk_below BO.out hbb); replace BX := aM (blk_below BX.out hbb); clear hbb hg_; have BI := aM hbox; clear hbox; obtain ⟨cN0, cN1, cN2, cN3, cN4, cN5⟩ := box6 BN.out; obtain ⟨cO0, cO1, cO2, cO3⟩ := box4 BO.out; obtain ⟨cX0, cX1, cX2, cX3⟩ := box4 BX.out; obtain ⟨cI0, cI1, cI2, cI3, cI4⟩ := box5 BI.out) | ((with_reducible refine gate_store (t := 95) (p := 11) rfl ?_); have z0 := blk_frozen BI.out 0; have z1 := blk_frozen BI.out 1; have z2 := blk_frozen BI.out 2; have z3 := blk_frozen BI.out 3; have z4 := blk_frozen BI.out 4; refine store_event (t := 95) (p := 11) (v := .tmp 40) (w1 := (((((wI.setCell ⟨gI, 0, none⟩ (.int .i64 x0)).setCell ⟨gI, 1, none⟩ (.int .i64 x1)).setCell ⟨gI, 2, none⟩ (.int .i64 x2)).setCell ⟨gI, 3, none⟩ (.int .i64 x3)).setCell ⟨gI, 4, none⟩ (.int .i64 x4))) ?hg ?ho ?hn ?hr ?_; (case ho => rfl); (case hg => rfl); (case hn => rfl); (case hr => (go_simp; done)); clear z0 z1 z2 z3 z4; clear cN0 cN1 cN2 cN3 cN4 cN5 cO0 cO1 cO2 cO3 cX0 cX1 cX2 cX3 cI0 cI1 cI2 cI3 cI4; intro w8 hw_; obtain ⟨hbk, hkb, hkw⟩ := boxv5 (v0 := .int .i64 x0) (v1 := .int .i64 x1) (v2 := .int .i64 x2) (v3 := .int .i64 x3) (v4 := .int .i64 x4) BI.out; rw [← hw_] at hbk hkb hkw; clear hw_; replace HB := aM (hkw _ HB.out GEI.out); replace BN := aM (blk_kept BN.out hkb (fun h_ => NENI.out h_)); replace BO := aM (blk_kept BO.out hkb (fun h_ => NEOI.out h_)); replace BX := aM (blk_kept BX.out hkb (fun h_ => NEXI.out h_)); replace BI := aM (hbk); clear hbk hkb hkw; obtain ⟨cN0, cN1, cN2, cN3, cN4, cN5⟩ := box6 BN.out; obtain ⟨cO0, cO1, cO2, cO3⟩ := box4 BO.out; obtain ⟨cX0, cX1, cX2, cX3⟩ := box4 BX.out; obtain ⟨cI0, cI1, cI2, cI3, cI4⟩ := box5 BI.out))
 clear hx0 hx1 hx2 hx3 hx4 cN0 cN1 cN2 cN3 cN4 cN5 cO0 cO1 cO2 cO3 cX0 cX1 cX2 cX3 cI0 cI1 cI2 cI3 cI4
 have HW : ∀ W, Below w8.heap.size w8 W → Below w.heap.size w W := fun W hW => HB.out.trans (hW.mono HB.out.size)
 have dN := fun (W : World) (hW : Below w8.heap.size w8 W) => blk_below BN.out hW
 have dO := fun (W : World) (hW : Below w8.heap.size w8 W) => blk_below BO.out hW
 have dX := fun (W : World) (hW : Below w8.heap.size w8 W) => blk_below BX.out hW
 have dI := fun (W : World) (hW : Below w8.heap.size w8 W) => blk_below BI.out hW
 refine seq_tail (R := []) [some 41, some 42, some 43, some 44, some 45, some 46, some 47, some 48, some 49, some 50, some 51, some 52, some 53, some 54, some 55, some 56, some 57, some 58, some 59, some 60, some 61, some 62, some 63, some 64, some 65, some 66, some 67, some 68, some 69] 85 29 [VP.eq (.pointer (some ⟨gI, 0, none⟩)), VP.eq (.int .i64 (x0)), VP.eq (.int .i64 (a1)), VP.eq (.bool ((x0 != a1))), VP.eq (.bool ((x0 != a1))), VP.eq (cond (((x0 != a1) == false)) (.pointer (some ⟨gI, 1, none⟩)) undef), VP.eq (cond (((x0 != a1) == false)) (.int .i64 (x1)) undef), VP.eq (cond (((x0 != a1) == false)) (.int .i64 (a2)) undef), VP.eq (cond (((x0 != a1) == false)) (.bool ((x1 != a2))) undef), VP.eq (.bool (((x0 != a1) || (x1 != a2)))), VP.eq (.bool (((x0 != a1) || (x1 != a2)))), VP.eq (cond ((((x0 != a1) || (x1 != a2)) == false)) (.pointer (some ⟨gI, 2, none⟩)) undef), VP.eq (cond ((((x0 != a1) || (x1 != a2)) == false)) (.int .i64 (x2)) undef), VP.eq (cond ((((x0 != a1) || (x1 != a2)) == false)) (.bool ((x2 == 1))) undef), VP.eq (cond ((((x0 != a1) || (x1 != a2)) == false)) (.bool ((x2 == 1))) undef), VP.eq (cond (((((x0 != a1) || (x1 != a2)) == false) && ((x2 == 1) == true))) (.pointer (some ⟨gX, 3, none⟩)) undef), VP.eq (cond (((((x0 != a1) || (x1 != a2)) == false) && ((x2 == 1) == true))) (.bool (m)) undef), VP.eq (cond (((((x0 != a1) || (x1 != a2)) == false) && ((x2 == 1) == true))) (.bool ((!m))) undef), VP.eq (cond ((((x0 != a1) || (x1 != a2)) == false)) (.bool (((x2 == 1) && (!m)))) undef), VP.eq (.bool ((((x0 != a1) || (x1 != a2)) || ((x2 == 1) && (!m))))), VP.eq (.bool ((((x0 != a1) || (x1 != a2)) || ((x2 == 1) && (!m))))), VP.eq (cond (((((x0 != a1) || (x1 != a2)) || ((x2 == 1) && (!m))) == false)) (.pointer (some ⟨gI, 2, none⟩)) undef), VP.eq (cond (((((x0 != a1) || (x1 != a2)) || ((x2 == 1) && (!m))) == false)) (.int .i64 (x2)) undef), VP.eq (cond (((((x0 != a1) || (x1 != a2)) || ((x2 == 1) && (!m))) == false)) (.bool ((x2 == 2))) undef), VP.eq (cond (((((x0 != a1) || (x1 != a2)) || ((x2 == 1) && (!m))) == false)) (.bool ((x2 == 2))) undef), VP.eq (cond ((((((x0 != a1) || (x1 != a2)) || ((x2 == 1) && (!m))) == false) && ((x2 == 2) == true))) (.pointer (some ⟨gX, 3, none⟩)) undef), VP.eq (cond ((((((x0 != a1) || (x1 != a2)) || ((x2 == 1) && (!m))) == false) && ((x2 == 2) == true))) (.bool (m)) undef), VP.eq (cond (((((x0 != a1) || (x1 != a2)) || ((x2 == 1) && (!m))) == false)) (.bool (((x2 == 2) && m))) undef), VP.eq (.bool (((((x0 != a1) || (x1 != a2)) || ((x2 == 1) && (!m))) || ((x2 == 2) && m))))] rfl rfl (by kernel_rfl) rfl ⟨?_, ?_, ?_, ?_, ?_, ?_, ?_, ?_, ?_, ?_, ?_, ?_, ?_, ?_, ?_, ?_, ?_, ?_, ?_, ?_, ?_, ?_, ?_, ?_, ?_, ?_, ?_, ?_, ?_, trivial⟩ ?_
 ·exact fun _ W _ hW _ hb hd _ hK _ => gd_step (C := true) wn_ (fun _ => x_fa95 rfl (oD (by kernel_rfl)) (hb 11)) (hK _ W rfl (Below.refl _ _))
 ·exact fun _ W _ hW _ hb hd _ hK _ => gd_step (C := true) wn_ (fun _ => x_ld3 rfl (hd 0 41) ((blk_cell (dI W hW) 0).trans rfl)) (hK _ W rfl (Below.refl _ _))
 ·exact fun _ W _ hW _ hb hd _ hK _ => gd_step (C := true) wn_ (fun _ => x_move rfl (hb 1)) (hK _ W rfl (Below.refl _ _))
 ·exact fun _ W _ hW _ hb hd _ hK _ => gd_step (C := true) wn_ (fun _ => x_neq rfl (hd 1 42) (hd 2 43)) (hK _ W rfl (Below.refl _ _))
 ·exact fun _ W _ hW _ hb hd _ hK _ => gd_step (C := true) wn_ (fun _ => x_move rfl (hd 3 44)) (hK _ W rfl (Below.refl _ _))
 ·exact fun _ W _ hW _ hb hd _ hK _ => gd_step (wg0 (hd 4 45)) (fun hC => x_fa95 rfl (oD (by kernel_rfl)) (hb 11)) (hK _ W rfl (Below.refl _ _))
 ·exact fun _ W _ hW _ hb hd _ hK _ => gd_step (wg0 (hd 4 45)) (fun hC => x_ld3 rfl (cnd (hd 5 46) hC) ((blk_cell (dI W hW) 1).trans rfl)) (hK _ W rfl (Below.refl _ _))
 ·exact fun _ W _ hW _ hb hd _ hK _ => gd_step (wg0 (hd 4 45)) (fun hC => x_move rfl (hb 2)) (hK _ W rfl (Below.refl _ _))
 ·exact fun _ W _ hW _ hb hd _ hK _ => gd_step (wg0 (hd 4 45)) (fun hC => x_neq rfl (cnd (hd 6 47) hC) (cnd (hd 7 48) hC)) (hK _ W rfl (Below.refl _ _))
 ·exact fun _ W _ hW _ hb hd _ hK _ => gd_step (C := true) wn_ (fun _ => x_or rfl (hd 4 45) (hd 8 49)) (hK _ W rfl (Below.refl _ _))
 ·exact fun _ W _ hW _ hb hd _ hK _ => gd_step (C := true) wn_ (fun _ => x_move rfl (hd 9 50)) (hK _ W rfl (Below.refl _ _))
 ·exact fun _ W _ hW _ hb hd _ hK _ => gd_step (wg0 (hd 10 51)) (fun hC => x_fa95 rfl (oD (by kernel_rfl)) (hb 11)) (hK _ W rfl (Below.refl _ _))
 ·exact fun _ W _ hW _ hb hd _ hK _ => gd_step (wg0 (hd 10 51)) (fun hC => x_ld3 rfl (cnd (hd 11 52) hC) ((blk_cell (dI W hW) 2).trans rfl)) (hK _ W rfl (Below.refl _ _))
 ·exact fun _ W _ hW _ hb hd _ hK _ => gd_step (wg0 (hd 10 51)) (fun hC => x_eql rfl (cnd (hd 12 53) hC) rfl) (hK _ W rfl (Below.refl _ _))
 ·exact fun _ W _ hW _ hb hd _ hK _ => gd_step (wg0 (hd 10 51)) (fun hC => x_move rfl (cnd (hd 13 54) hC)) (hK _ W rfl (Below.refl _ _))
 ·exact fun _ W _ hW _ hb hd _ hK _ => gd_step (wg (hd 14 55)) (fun hC => x_fa80 rfl (oD (by kernel_rfl)) (hb 9)) (hK _ W rfl (Below.refl _ _))
 ·exact fun _ W _ hW _ hb hd _ hK _ => gd_step (wg (hd 14 55)) (fun hC => x_ld4 rfl (cnd (hd 15 56) hC) ((blk_cell (dX W hW) 3).trans rfl)) (hK _ W rfl (Below.refl _ _))
 ·exact fun _ W _ hW _ hb hd _ hK _ => gd_step (wg (hd 14 55)) (fun hC => x_not rfl (cnd (hd 16 57) hC)) (hK _ W rfl (Below.refl _ _))
 ·exact fun _ W _ hW _ hb hd _ hK _ => gd_step (wg0 (hd 10 51)) (fun hC => x_and rfl (cnd (hd 14 55) hC) (cnd_and (hd 17 58) hC)) (hK _ W rfl (Below.refl _ _))
 ·exact fun _ W _ hW _ hb hd _ hK _ => gd_step (C := true) wn_ (fun _ => x_or rfl (hd 10 51) (hd 18 59)) (hK _ W rfl (Below.refl _ _))
 ·exact fun _ W _ hW _ hb hd _ hK _ => gd_step (C := true) wn_ (fun _ => x_move rfl (hd 19 60)) (hK _ W rfl (Below.refl _ _))
 ·exact fun _ W _ hW _ hb hd _ hK _ => gd_step (wg0 (hd 20 61)) (fun hC => x_fa95 rfl (oD (by kernel_rfl)) (hb 11)) (hK _ W rfl (Below.refl _ _))
 ·exact fun _ W _ hW _ hb hd _ hK _ => gd_step (wg0 (hd 20 61)) (fun hC => x_ld3 rfl (cnd (hd 21 62) hC) ((blk_cell (dI W hW) 2).trans rfl)) (hK _ W rfl (Below.refl _ _))
 ·exact fun _ W _ hW _ hb hd _ hK _ => gd_step (wg0 (hd 20 61)) (fun hC => x_eql rfl (cnd (hd 22 63) hC) rfl) (hK _ W rfl (Below.refl _ _))
 ·exact fun _ W _ hW _ hb hd _ hK _ => gd_step (wg0 (hd 20 61)) (fun hC => x_move rfl (cnd (hd 23 64) hC)) (hK _ W rfl (Below.refl _ _))
 ·exact fun _ W _ hW _ hb hd _ hK _ => gd_step (wg (hd 24 65)) (fun hC => x_fa80 rfl (oD (by kernel_rfl)) (hb 9)) (hK _ W rfl (Below.refl _ _))
 ·exact fun _ W _ hW _ hb hd _ hK _ => gd_step (wg (hd 24 65)) (fun hC => x_ld4 rfl (cnd (hd 25 66) hC) ((blk_cell (dX W hW) 3).trans rfl)) (hK _ W rfl (Below.refl _ _))
 ·exact fun _ W _ hW _ hb hd _ hK _ => gd_step (wg0 (hd 20 61)) (fun hC => x_and rfl (cnd (hd 24 65) hC) (cnd_and (hd 26 67) hC)) (hK _ W rfl (Below.refl _ _))
 ·exact fun _ W _ hW _ hb hd _ hK _ => gd_step (C := true) wn_ (fun _ => x_or rfl (hd 20 61) (hd 27 68)) (hK _ W rfl (Below.refl _ _))
 intro vals F W B hF hW hBB hV
 have hf : vals 69 = .bool (((((x0 != a1) || (x1 != a2)) || ((x2 == 1) && (!m))) || ((x2 == 2) && m))) := hV 28 69 (oD (by kernel_rfl)) rfl
 replace HB := aM (HW W hW)
 replace BN := aM (dN W hW)
 replace BO := aM (dO W hW)
 replace BX := aM (dX W hW)
 replace BI := aM (dI W hW)
 clear hW HW dN dO dX dI
 rw [hF]
 clear hF hV hBB
 simp only [cond_true, List.take, fillA, Act.put, List.setIfInBounds_toArray, List.set_cons_zero, List.set_cons_succ, hf]
 clear hf
 cases hSK : ((((x0 != a1) || (x1 != a2)) || ((x2 == 1) && (!m))) || ((x2 == 2) && m)) with
 | true =>
  rw [if_pos hSK] at hN
  have HI := aM hN
  clear hN
  obtain ⟨cN0, cN1, cN2, cN3, cN4, cN5⟩ := box6 BN.out
  obtain ⟨cO0, cO1, cO2, cO3⟩ := box4 BO.out
  obtain ⟨cX0, cX1, cX2, cX3⟩ := box4 BX.out
  obtain ⟨cI0, cI1, cI2, cI3, cI4⟩ := box5 BI.out
  go_wp2
  go_roundg (l0_4.length - (kk + 1))
  case measure => omega
  case rel => exact ⟨kk + 1, p, m, by omega, by omega, by go_num, HB, BN, BO, BX, HI⟩
 | false =>
  rw [if_neg (by rw [hSK]; exact Bool.false_ne_true)] at hN
  cases h1 : (x3 == 1) with
  | true =>
   rw [h1, if_pos rfl] at hN
   subst hN
   have hq := HR.out
   simp only [resO, Prod.mk.injEq] at hq
   obtain ⟨rfl, rfl, rfl, rfl⟩ := hq
   obtain ⟨cN0, cN1, cN2, cN3, cN4, cN5⟩ := box6 BN.out
   obtain ⟨cO0, cO1, cO2, cO3⟩ := box4 BO.out
   obtain ⟨cX0, cX1, cX2, cX3⟩ := box4 BX.out
   obtain ⟨cI0, cI1, cI2, cI3, cI4⟩ := box5 BI.out
   go_wp2_with (first | (go_at_call 72; (with_reducible refine (spec_l07None.calls _ _ _ _ _ rfl).mono ?_); rintro e wi ⟨rfl, hb⟩; clear cN0 cN1 cN2 cN3 cN4 cN5 cO0 cO1 cO2 cO3 cX0 cX1 cX2 cX3 cI0 cI1 cI2 cI3 cI4; replace HB := aB HB hb; replace BN := aK BN hb; replace BO := aK BO hb; replace BX := aK BX hb; replace BI := aK BI hb; clear hb; obtain ⟨cN0, cN1, cN2, cN3, cN4, cN5⟩ := box6 BN.out; obtain ⟨cO0, cO1, cO2, cO3⟩ := box4 BO.out; obtain ⟨cX0, cX1, cX2, cX3⟩ := box4 BX.out; obtain ⟨cI0, cI1, cI2, cI3, cI4⟩ := box5 BI.out) | ((with_reducible refine gate_store (t := 80) (p := 8) rfl ?_); have z0 := blk_frozen BO.out 0; have z1 := blk_frozen BO.out 1; have z2 := blk_frozen BO.out 2; have z3 := blk_frozen BO.out 3; refine store_event (t := 80) (p := 8) (v := .tmp 78) (w1 := ((((wi.setCell ⟨gO, 0, none⟩ (.int .i64 (-3))).setCell ⟨gO, 1, none⟩ (.int .i64 0)).setCell ⟨gO, 2, none⟩ (.int .i64 0)).setCell ⟨gO, 3, none⟩ (.bool false))) ?hg ?ho ?hn ?hr ?_; (case ho => rfl); (case hg => rfl); (case hn => rfl); (case hr => (go_simp; done)); clear z0 z1 z2 z3; clear cN0 cN1 cN2 cN3 cN4 cN5 cO0 cO1 cO2 cO3 cX0 cX1 cX2 cX3 cI0 cI1 cI2 cI3 cI4; intro wz hw_; obtain ⟨hbk, hkb, hkw⟩ := boxv4 (v0 := .int .i64 (-3)) (v1 := .int .i64 0) (v2 := .int .i64 0) (v3 := .bool false) BO.out; rw [← hw_] at hbk hkb hkw; clear hw_; replace HB := aM (hkw _ HB.out GEO.out); replace BN := aM (blk_kept BN.out hkb (fun h_ => NENO.out h_)); replace BO := aM (hbk); replace BX := aM (blk_kept BX.out hkb (fun h_ => NEOX.out h_.symm)); replace BI := aM (blk_kept BI.out hkb (fun h_ => NEOI.out h_.symm)); clear hbk hkb hkw; obtain ⟨cN0, cN1, cN2, cN3, cN4, cN5⟩ := box6 BN.out; obtain ⟨cO0, cO1, cO2, cO3⟩ := box4 BO.out; obtain ⟨cX0, cX1, cX2, cX3⟩ := box4 BX.out; obtain ⟨cI0, cI1, cI2, cI3, cI4⟩ := box5 BI.out))
   refine bodyPost_ret (results_cell_row rfl _ _ gO 80 #[.int .i64 (-3), .int .i64 0, .int .i64 0, .bool false] (0, 0) _ rfl BO.out Try.underlying80 rfl (by kernel_rfl)) rfl ?_
   exact ⟨rfl, HB.out⟩
  | false =>
   rw [h1, if_neg Bool.false_ne_true] at hN
   cases h2 : (x3 == 2) with
   | true =>
    rw [h2, if_pos rfl] at hN
    have HI := aM hN
    clear hN
    obtain ⟨cN0, cN1, cN2, cN3, cN4, cN5⟩ := box6 BN.out
    obtain ⟨cO0, cO1, cO2, cO3⟩ := box4 BO.out
    obtain ⟨cX0, cX1, cX2, cX3⟩ := box4 BX.out
    obtain ⟨cI0, cI1, cI2, cI3, cI4⟩ := box5 BI.out
    go_wp2_with (((with_reducible refine gate_store (t := 3) (p := 83) rfl ?_); have z0 := blk_frozen BX.out 1; refine store_event (t := 3) (p := 83) (v := .tmp 82) (w1 := W.setCell ⟨gX, 1, none⟩ (.int .i64 x4)) ?hg ?ho ?hn ?hr ?_; (case ho => rfl); (case hg => rfl); (case hn => rfl); (case hr => (go_simp; done)); clear z0; clear cN0 cN1 cN2 cN3 cN4 cN5 cO0 cO1 cO2 cO3 cX0 cX1 cX2 cX3 cI0 cI1 cI2 cI3 cI4; intro wz hw_; obtain ⟨hbk, hkb, hkw⟩ := boxf (i := 1) (v := .int .i64 x4) (cs' := #[.int .i64 a2, .int .i64 x4, .int .i64 (wrap64 (a3_2 + cost)), .bool m]) BX.out rfl; rw [← hw_] at hbk hkb hkw; clear hw_; replace HB := aM (hkw _ HB.out GEX.out); replace BN := aM (blk_kept BN.out hkb (fun h_ => NENX.out h_)); replace BO := aM (blk_kept BO.out hkb (fun h_ => NEOX.out h_)); replace BX := aM (hbk); replace BI := aM (blk_kept BI.out hkb (fun h_ => NEXI.out h_.symm)); clear hbk hkb hkw; obtain ⟨cN0, cN1, cN2, cN3, cN4, cN5⟩ := box6 BN.out; obtain ⟨cO0, cO1, cO2, cO3⟩ := box4 BO.out; obtain ⟨cX0, cX1, cX2, cX3⟩ := box4 BX.out; obtain ⟨cI0, cI1, cI2, cI3, cI4⟩ := box5 BI.out))
    go_roundg (l0_4.length - (kk + 1))
    case measure => omega
    case rel => exact ⟨kk + 1, x4, m, by omega, by omega, by go_num, HB, BN, BO, BX, HI⟩
   | false =>
    rw [h2, if_neg Bool.false_ne_true] at hN
    have HI := aM hN
    clear hN
    obtain ⟨cN0, cN1, cN2, cN3, cN4, cN5⟩ := box6 BN.out
    obtain ⟨cO0, cO1, cO2, cO3⟩ := box4 BO.out
    obtain ⟨cX0, cX1, cX2, cX3⟩ := box4 BX.out
    obtain ⟨cI0, cI1, cI2, cI3, cI4⟩ := box5 BI.out
    go_wp2_with (((with_reducible refine gate_store (t := 4) (p := 75) rfl ?_); have z0 := blk_frozen BX.out 3; refine store_event (t := 4) (p := 75) (v := .tmp 74) (w1 := W.setCell ⟨gX, 3, none⟩ (.bool (x3 == 3))) ?hg ?ho ?hn ?hr ?_; (case ho => rfl); (case hg => rfl); (case hn => rfl); (case hr => (go_simp; done)); clear z0; clear cN0 cN1 cN2 cN3 cN4 cN5 cO0 cO1 cO2 cO3 cX0 cX1 cX2 cX3 cI0 cI1 cI2 cI3 cI4; intro wz hw_; obtain ⟨hbk, hkb, hkw⟩ := boxf (i := 3) (v := .bool (x3 == 3)) (cs' := #[.int .i64 a2, .int .i64 p, .int .i64 (wrap64 (a3_2 + cost)), .bool (x3 == 3)]) BX.out rfl; rw [← hw_] at hbk hkb hkw; clear hw_; replace HB := aM (hkw _ HB.out GEX.out); replace BN := aM (blk_kept BN.out hkb (fun h_ => NENX.out h_)); replace BO := aM (blk_kept BO.out hkb (fun h_ => NEOX.out h_)); replace BX := aM (hbk); replace BI := aM (blk_kept BI.out hkb (fun h_ => NEXI.out h_.symm)); clear hbk hkb hkw; obtain ⟨cN0, cN1, cN2, cN3, cN4, cN5⟩ := box6 BN.out; obtain ⟨cO0, cO1, cO2, cO3⟩ := box4 BO.out; obtain ⟨cX0, cX1, cX2, cX3⟩ := box4 BX.out; obtain ⟨cI0, cI1, cI2, cI3, cI4⟩ := box5 BI.out))
    go_roundg (l0_4.length - (kk + 1))
    case measure => omega
    case rel => exact ⟨kk + 1, p, (x3 == 3), by omega, by omega, by go_num, HB, BN, BO, BX, HI⟩
end Go.Proofs.Ytgibacfgjmdjdaa.PFnExactIsStable
end
section
namespace Go.Proofs.Ytgibacfgjmdjdaa.PFnExactIsStable
open Go.RowKit Go.Proofs.YtgibacfgjmdjdaaW.PrintWords Go.Proofs.YtgibacfgjmdjdaaW.PrintLast Go.Proofs.YtgibacfgjmdjdaaW.PrintMore
attribute [local go_sem] max2_int min2_int max_two min_two max_three min_three max_four min_four   -- for this text's walks alone
set_option linter.unusedVariables false
set_option linter.unusedSimpArgs false
mutual
def spec_l07Candidates.j0 : Nat → Int → List Int → List Bool → List (S80) → List (S80) → List ByteArray → List (S92) → List Int → List Int → List (S95) → List (S97) → Option ((List (S80)))
 | 0, _, _, _, _, _, _, _, _, _, _, _ => none
 | k + 1, x1, x2, x3, x4, x11, x252000, x252001, x252002, x252003, x252004, x252005 => (spec_l07Has.f k x252003 x1).bind fun t259 => (if t259 ≥ 0 then (if 0 ≤ t259 then (if t259 < (x2.length : Int) then (spec_l07Candidates.j1 k x1 x2 x3 x4 x11 t259 (decide ((rd x2 t259) > 0)) x252000 x252001 x252002 x252003 x252004 x252005) else (none)) else (none)) else (spec_l07Candidates.j1 k x1 x2 x3 x4 x11 t259 false x252000 x252001 x252002 x252003 x252004 x252005))
def spec_l07Candidates.j1 : Nat → Int → List Int → List Bool → List (S80) → List (S80) → Int → Bool → List ByteArray → List (S92) → List Int → List Int → List (S95) → List (S97) → Option ((List (S80)))
 | 0, _, _, _, _, _, _, _, _, _, _, _, _, _ => none
 | k + 1, x1, x2, x3, x4, x11, x12, x38, x252000, x252001, x252002, x252003, x252004, x252005 => if x38 = true then (if 0 ≤ x12 then (if x12 < (x2.length : Int) then (if x11.length < 4398046511104 then (spec_l07Candidates.j2 k x1 x3 x4 (x11 ++ [(⟨(-1), 100, 2, ((rd x2 x12) == 2)⟩ : S80)]) x252000 x252001 x252002 x252003 x252004 x252005) else (none)) else (none)) else (none)) else (spec_l07Candidates.j2 k x1 x3 x4 x11 x252000 x252001 x252002 x252003 x252004 x252005)
def spec_l07Candidates.j2 : Nat → Int → List Bool → List (S80) → List (S80) → List ByteArray → List (S92) → List Int → List Int → List (S95) → List (S97) → Option ((List (S80)))
 | 0, _, _, _, _, _, _, _, _, _, _ => none
 | k + 1, x1, x3, x4, x11, x252000, x252001, x252002, x252003, x252004, x252005 => (spec_l06Neighbours.f k x252000 x252001 x252002 x252003 x252004 x252005 x1 x3).bind fun t265 => (spec_l07Candidates.l0 k x1 x4 x11 t265 0 x252000 x252001 x252002 x252003 x252004 x252005)
def spec_l07Candidates.l0 : Nat → Int → List (S80) → List (S80) → List Int → Int → List ByteArray → List (S92) → List Int → List Int → List (S95) → List (S97) → Option ((List (S80)))
 | 0, _, _, _, _, _, _, _, _, _, _, _ => none
 | k + 1, x1, x4, x11, x13, x14, x252000, x252001, x252002, x252003, x252004, x252005 => if x14 < (x13.length : Int) then (if 0 ≤ x14 then (if 0 ≤ (rd x13 x14) then (if (rd x13 x14) < (x4.length : Int) then (if ((rd_T80 x4 (rd x13 x14)).f0) = (-3) then (spec_l07Candidates.j4 k x1 x4 x11 x13 x14 true x252000 x252001 x252002 x252003 x252004 x252005) else ((spec_l07Through.f k x4 (rd x13 x14) x1).bind fun t271 => (spec_l07Candidates.j4 k x1 x4 x11 x13 x14 t271 x252000 x252001 x252002 x252003 x252004 x252005))) else (none)) else (none)) else (none)) else (some x11)
def spec_l07Candidates.j4 : Nat → Int → List (S80) → List (S80) → List Int → Int → Bool → List ByteArray → List (S92) → List Int → List Int → List (S95) → List (S97) → Option ((List (S80)))
 | 0, _, _, _, _, _, _, _, _, _, _, _, _ => none
 | k + 1, x1, x4, x11, x13, x14, x75, x252000, x252001, x252002, x252003, x252004, x252005 => if x75 = true then (spec_l07Candidates.l0 k x1 x4 x11 x13 (wrap64 (x14 + 1)) x252000 x252001 x252002 x252003 x252004 x252005) else (if 0 ≤ x14 then (if x14 < (x13.length : Int) then (if 0 ≤ (rd x13 x14) then (if (rd x13 x14) < (x4.length : Int) then ((spec_l07Import.f k x252000 x252001 x252002 x252003 x252004 x252005 x1 (rd x13 x14) ((rd_T80 x4 (rd x13 x14)).f0) ((rd_T80 x4 (rd x13 x14)).f1) ((rd_T80 x4 (rd x13 x14)).f2) ((rd_T80 x4 (rd x13 x14)).f3)).bind fun bt275 => (if bt275.1 = (-3) then (spec_l07Candidates.l0 k x1 x4 x11 x13 (wrap64 (x14 + 1)) x252000 x252001 x252002 x252003 x252004 x252005) else (if x11.length < 4398046511104 then (spec_l07Candidates.l0 k x1 x4 (x11 ++ [(⟨bt275.1, bt275.2.1, bt275.2.2.1, bt275.2.2.2⟩ : S80)]) x13 (wrap64 (x14 + 1)) x252000 x252001 x252002 x252003 x252004 x252005) else (none)))) else (none)) else (none)) else (none)) else (none))
end
def spec_l07Candidates.f (k : Nat) (l0_0 : List ByteArray) (l0_1 : List (S92)) (l0_2 : List Int) (l0_3 : List Int) (l0_4 : List (S95)) (l0_5 : List (S97)) (a1 : Int) (l2 : List Int) (l3 : List Bool) (l4 : List (S80)) : Option ((List (S80))) := (some (([] : List (S80)) : List (S80))).bind fun y252 => ((spec_l07Has.f k l0_2 a1).bind fun t255 => (if t255 ≥ 0 then (if y252.length < 4398046511104 then (spec_l07Candidates.j0 k a1 l2 l3 l4 (y252 ++ [(⟨(-2), 200, 0, false⟩ : S80)]) l0_0 l0_1 l0_2 l0_3 l0_4 l0_5) else (none)) else (spec_l07Candidates.j0 k a1 l2 l3 l4 y252 l0_0 l0_1 l0_2 l0_3 l0_4 l0_5)))
def spec_l07Candidates.T12 : Bool × List (List Nat × List Nat) := (true, [([], []), ([], []), ([], []), ([], []), ([2, 3], [2, 3]), ([4], [4]), ([], []), ([], []), ([], []), ([7, 8], [7, 8]), ([9], [9]), ([6, 10], [6, 10]), ([11], [11]), ([0, 1, 5, 12], [0, 1, 5, 12]), ([], []), ([14, 13, 13, 0, 1, 2, 3, 4, 5, 6, 7, 8, 9, 10, 11, 12, 13, 14], [13, 14])])
def spec_l07Candidates.B12 : List Nat := [0, 0, 0, 0, 12, 28, 0, 0, 0, 384, 896, 1984, 4032, 8191, 0, 32767]
theorem spec_l07Candidates.tab12 : rtab .any (opsOf Try.f70 12) = spec_l07Candidates.T12 := by kernel_rfl
theorem spec_l07Candidates.bits12 : waitsOk spec_l07Candidates.T12.2 spec_l07Candidates.B12 = true := by kernel_rfl
set_option maxHeartbeats 8000000 in
set_option maxRecDepth 100000 in
theorem spec_l07Candidates.calls (k : Nat) (A0_0 : Option Addr) (c0_0 : Nat) (l0_0 : List ByteArray) (A0_1 : Option Addr) (c0_1 : Nat) (l0_1 : List (S92)) (A0_2 : Option Addr) (c0_2 : Nat) (l0_2 : List Int) (A0_3 : Option Addr) (c0_3 : Nat) (l0_3 : List Int) (A0_4 : Option Addr) (c0_4 : Nat) (l0_4 : List (S95)) (A0_5 : Option Addr) (c0_5 : Nat) (l0_5 : List (S97)) (a1 : Int) (A2 : Option Addr) (c2 : Nat) (l2 : List Int) (A3 : Option Addr) (c3 : Nat) (l3 : List Bool) (A4 : Option Addr) (c4 : Nat) (l4 : List (S80)) (r : List (S80)) (w : World) (hr0_0 : Kd.C Kd.string w A0_0 l0_0.length l0_0) (hc0_0 : l0_0.length ≤ c0_0) (hr0_1 : Kd.C k92 w A0_1 l0_1.length l0_1) (hc0_1 : l0_1.length ≤ c0_1) (hr0_2 : Kd.C (Kd.int .i64) w A0_2 l0_2.length l0_2) (hc0_2 : l0_2.length ≤ c0_2) (hr0_3 : Kd.C (Kd.int .i64) w A0_3 l0_3.length l0_3) (hc0_3 : l0_3.length ≤ c0_3) (hr0_4 : Kd.C k95 w A0_4 l0_4.length l0_4) (hc0_4 : l0_4.length ≤ c0_4) (hr0_5 : Kd.C k97 w A0_5 l0_5.length l0_5) (hc0_5 : l0_5.length ≤ c0_5) (hr2 : Kd.C (Kd.int .i64) w A2 l2.length l2) (hc2 : l2.length ≤ c2) (hr3 : Kd.C Kd.bool w A3 l3.length l3) (hc3 : l3.length ≤ c3) (hr4 : Kd.C k80 w A4 l4.length l4) (hc4 : l4.length ≤ c4) (h : spec_l07Candidates.f k l0_0 l0_1 l0_2 l0_3 l0_4 l0_5 a1 l2 l3 l4 = some r) :
  Calls Try.prog 70 #[.agg #[.slice A0_0 l0_0.length c0_0, .slice A0_1 l0_1.length c0_1, .slice A0_2 l0_2.length c0_2, .slice A0_3 l0_3.length c0_3, .slice A0_4 l0_4.length c0_4, .slice A0_5 l0_5.length c0_5], .int .i64 a1, .slice A2 l2.length c2, .slice A3 l3.length c3, .slice A4 l4.length c4] w fun e w' => ∃ v0_ : Value, e = .returned (v0_) ∧ Kd.R k80 80 w' w.heap.size (fun _ => True) v0_ r ∧ Below w.heap.size w w' := by
 have hu38 := Try.underlying38
 have hu80 := Try.underlying80
 obtain ⟨HR0_0, HC0_0, HR0_1, HC0_1, HR0_2, HC0_2, HR0_3, HC0_3, HR0_4, HC0_4, HR0_5, HC0_5⟩ := as12 hr0_0 hc0_0 hr0_1 hc0_1 hr0_2 hc0_2 hr0_3 hc0_3 hr0_4 hc0_4 hr0_5 hc0_5
 clear hr0_0 hc0_0 hr0_1 hc0_1 hr0_2 hc0_2 hr0_3 hc0_3 hr0_4 hc0_4 hr0_5 hc0_5
 have HR2 := aM hr2
 have HC2 := aM hc2
 clear hr2 hc2
 have HR3 := aM hr3
 have HC3 := aM hc3
 clear hr3 hc3
 have HR4 := aM hr4
 have HC4 := aM hc4
 clear hr4 hc4
 have HB := aM (Below.refl w.heap.size w)
 have H : ((some (([] : List (S80)) : List (S80))).bind fun y252 => ((spec_l07Has.f k l0_2 a1).bind fun t255 => (if t255 ≥ 0 then (if y252.length < 4398046511104 then (spec_l07Candidates.j0 k a1 l2 l3 l4 (y252 ++ [(⟨(-2), 200, 0, false⟩ : S80)]) l0_0 l0_1 l0_2 l0_3 l0_4 l0_5) else (none)) else (spec_l07Candidates.j0 k a1 l2 l3 l4 y252 l0_0 l0_1 l0_2 l0_3 l0_4 l0_5)))) = some r := h
 clear h
 obtain ⟨y252, hy252⟩ : ∃ y_ : List (S80), y_ = (([] : List (S80))) := ⟨_, rfl⟩
 replace H : ((spec_l07Has.f k l0_2 a1).bind fun t255 => (if t255 ≥ 0 then (if y252.length < 4398046511104 then (spec_l07Candidates.j0 k a1 l2 l3 l4 (y252 ++ [(⟨(-2), 200, 0, false⟩ : S80)]) l0_0 l0_1 l0_2 l0_3 l0_4 l0_5) else (none)) else (spec_l07Candidates.j0 k a1 l2 l3 l4 y252 l0_0 l0_1 l0_2 l0_3 l0_4 l0_5))) = some r := by (have H2_ := (Option.bind_some _ _).symm.trans H; rw [hy252]; with_reducible exact H2_)
 have Ny252 := aM hy252
 clear hy252
 replace H := bS H
 obtain ⟨t255, A60, H⟩ := H
 replace H : (if t255 ≥ 0 then (if y252.length < 4398046511104 then (spec_l07Candidates.j0 k a1 l2 l3 l4 (y252 ++ [(⟨(-2), 200, 0, false⟩ : S80)]) l0_0 l0_1 l0_2 l0_3 l0_4 l0_5) else (none)) else (spec_l07Candidates.j0 k a1 l2 l3 l4 y252 l0_0 l0_1 l0_2 l0_3 l0_4 l0_5)) = some r := H
 have A6 := aM A60
 clear A60
 have HC7 := aM H
 clear H
 go_enter Try.func70, Try.ntmps70
 go_upto_if 21 with (first | ((with_reducible refine gate_dst (N := 5) rfl ?_); refine box_event rfl (N := 5) rfl (cs := #[.slice A0_0 l0_0.length c0_0, .slice A0_1 l0_1.length c0_1, .slice A0_2 l0_2.length c0_2, .slice A0_3 l0_3.length c0_3, .slice A0_4 l0_4.length c0_4, .slice A0_5 l0_5.length c0_5]) (t := 38) (by go_simp; done) ?_; intro gb251 hg w8 hbox hb; have BK251 := aM (hbox); have GW251 := bGE HB.out hg; have GE251 := bGE HB.out hg; replace HB := aB HB hb; clear hb hbox hg) | ((with_reducible refine gate_dst (N := 16) rfl ?_); refine Kd.R_lit k80 _ 80 ?hg (N := 16) ?hd (xs := ([] : List (S80))) (inner := []) (ok := fun _ => True) (okp := fun _ => True) ?hr ?hp (fun _ hk => hk) trivial (Below.refl _ _) (Nat.le_refl _) (by simp) ?_; (case hd => rfl); (case hg => rfl); (case hr => (go_simp; done)); (case hp => exact (Reps.none _ _)); intro v253 w9 ho10 hb hg_ hnew_; clear hg_ hnew_; (rw [← Ny252.out] at ho10); have HO254 := aM (Kd.R_lower ho10 (below_size HB.out)); replace BK251 := aK BK251 hb; replace HB := aB HB hb; clear hb ho10; obtain ⟨hcz11_0, hcz11_1, hcz11_2, hcz11_3, hcz11_4, hcz11_5⟩ := swc6 BK251.out; obtain ⟨hfz11_0, hfz11_1, hfz11_2, hfz11_3, hfz11_4, hfz11_5⟩ := swf6 BK251.out) | (go_at_call 99; (with_reducible refine (spec_l07Has.calls k _ _ l0_2 a1 t255 _ (Kd.C_below HR0_2.out HB.out) HC0_2.out A6.out).mono ?_); rintro e w' ⟨rfl, ⟨nd, rfl⟩⟩))
 (try simp only [Act.put, List.setIfInBounds_toArray, List.set_cons_zero, List.set_cons_succ])
 go_cut [11] (fun v11 wc => ∃ (kq : Nat) (x11_6 : List (S80)), Aside0 (spec_l07Candidates.j0 kq a1 l2 l3 l4 x11_6 l0_0 l0_1 l0_2 l0_3 l0_4 l0_5 = some r) ∧ Aside0 (kq ≤ k) ∧ Aside0 (Kd.R k80 80 wc w.heap.size (fun _ => True) v11 x11_6) ∧ Aside0 (wc.heap[gb251]? = some (.cells #[(.slice A0_0 l0_0.length c0_0), (.slice A0_1 l0_1.length c0_1), (.slice A0_2 l0_2.length c0_2), (.slice A0_3 l0_3.length c0_3), (.slice A0_4 l0_4.length c0_4), (.slice A0_5 l0_5.length c0_5)] 38 (0, 0))) ∧ Aside0 (Below w.heap.size w wc))
 case first =>
  have H := HC7.out
  clear HC7
  by_cases c12 : t255 ≥ 0
  rotate_left
  ·rw [if_neg c12] at H
   have c12b0 : decide (0 ≤ t255) = false := decide_eq_false c12
   clear c12
   (rw [c12b0])
   have H' := aM H
   clear H
   go_wp2
   go_meet
   case rel => exact ⟨_, (y252), H', ⟨by omega⟩, ⟨by (with_reducible repeat (apply Kd.R_drewN)); exact HO254.out⟩, ⟨by (with_reducible repeat (refine blk_drewN ?_ _)); exact BK251.out⟩, ⟨by repeat ((with_reducible first | exact HB.out | apply pw_below_drewN))⟩⟩
  rw [if_pos c12] at H
  have c12b0 : decide (0 ≤ t255) = true := decide_eq_true c12
  clear c12
  (rw [c12b0])
  by_cases c13 : y252.length < 4398046511104
  rotate_left
  ·rw [if_neg c13] at H
   exact absurd H (by simp)
  rw [if_pos c13] at H
  have LMc13 := aM c13
  clear c13
  obtain ⟨y256, hy256⟩ : ∃ y_ : List (S80), y_ = (y252 ++ [(⟨(-2), 200, 0, false⟩ : S80)]) := ⟨_, rfl⟩
  replace H : (spec_l07Candidates.j0 k a1 l2 l3 l4 y256 l0_0 l0_1 l0_2 l0_3 l0_4 l0_5) = some r := by (rw [hy256]; with_reducible exact H)
  have Ny256 := aM hy256
  clear hy256
  have H' := aM H
  clear H
  go_wp2_with (((with_reducible refine gate_builtin (b := .append) (xs := #[.tmp 22, .tmp 24]) rfl ?_); at_builtin; refine Kd.R_append k80 (w0 := w) w.heap.size rfl (.tmp 22) (.tmp 24) 31 80 (.agg #[(.int .i64 0), (.int .i64 0), (.int .i64 0), (.bool false)]) 32 rfl Try.underlying31 info80 rfl (by decide) (by omega) v253 y252 (⟨(-2), 200, 0, false⟩ : S80) [.int .i64 (-2), .int .i64 200, .int .i64 0, .bool false] (fun _ => True) (fun _ => False) rfl rfl ?aP (fun _ hk => hk.elim) ?aF ?aO ?aB ?aS ?aL ?_; (case aP => exact k80_mkM _ _ _ (⟨(-2), 200, 0, false⟩ : S80)); (case aB => exact (by repeat ((with_reducible first | exact HB.out | apply pw_below_drewN)))); (case aF => exact (fun _ _ => trivial)); (case aO => exact (by (with_reducible repeat (apply Kd.R_drewN)); exact HO254.out)); (case aS => exact (below_size (by repeat ((with_reducible first | exact HB.out | apply pw_below_drewN))))); (case aL => have := LMc13.out; omega); intro v257 w14 ho hb hg hat; rw [← Ny256.out] at ho; replace BK251 := aM (blk_grown (g := gb251) (o := .cells #[.slice A0_0 l0_0.length c0_0, .slice A0_1 l0_1.length c0_1, .slice A0_2 l0_2.length c0_2, .slice A0_3 l0_3.length c0_3, .slice A0_4 l0_4.length c0_4, .slice A0_5 l0_5.length c0_5] 38 (0, 0)) (by (with_reducible repeat (refine blk_drewN ?_ _)); exact BK251.out) hg (Kd.R_ne HO254.out BK251.out (by decide))); replace HB := aM (hb); have HO258 := aM (ho); clear HO254; clear ho hb hg hat))
  go_meet
  case rel => exact ⟨_, (y256), H', ⟨by omega⟩, ⟨by exact HO258.out⟩, ⟨by exact BK251.out⟩, ⟨by repeat ((with_reducible exact HB.out))⟩⟩
 clear HC7 hcz11_0 hcz11_1 hcz11_2 hcz11_3 hcz11_4 hcz11_5 hfz11_0 hfz11_1 hfz11_2 hfz11_3 hfz11_4 hfz11_5
 obtain ⟨kq, x11_6, HA, HJ6, HO_11, BK251, HB⟩ := hcut
 cases kq with
 | zero => exact absurd HA.out (by simp [spec_l07Candidates.j0])
 | succ kj6 =>
  have H := HA.out
  clear HA
  simp only [spec_l07Candidates.j0] at H
  replace H := bS H
  obtain ⟨t259, A150, H⟩ := H
  replace H : (if t259 ≥ 0 then (if 0 ≤ t259 then (if t259 < (l2.length : Int) then (spec_l07Candidates.j1 kj6 a1 l2 l3 l4 x11_6 t259 (decide ((rd l2 t259) > 0)) l0_0 l0_1 l0_2 l0_3 l0_4 l0_5) else (none)) else (none)) else (spec_l07Candidates.j1 kj6 a1 l2 l3 l4 x11_6 t259 false l0_0 l0_1 l0_2 l0_3 l0_4 l0_5)) = some r := H
  have A15 := aM A150
  clear A150
  have HC16 := aM H
  clear H
  obtain ⟨hcz17_0, hcz17_1, hcz17_2, hcz17_3, hcz17_4, hcz17_5⟩ := swc6 BK251.out
  obtain ⟨hfz17_0, hfz17_1, hfz17_2, hfz17_3, hfz17_4, hfz17_5⟩ := swf6 BK251.out
  go_upto_region 5 with ((go_at_call 99; (with_reducible refine (spec_l07Has.calls kj6 _ _ l0_3 a1 t259 _ (Kd.C_below HR0_3.out HB.out) HC0_3.out A15.out).mono ?_); rintro e w' ⟨rfl, ⟨nd, rfl⟩⟩))
  (try simp only [Act.put, List.setIfInBounds_toArray, List.set_cons_zero, List.set_cons_succ])
  go_cut [38] (fun v38 wc => ∃ (kq : Nat) (x38_15 : Bool), v38 = .bool x38_15 ∧ Aside0 (spec_l07Candidates.j1 kq a1 l2 l3 l4 x11_6 t259 x38_15 l0_0 l0_1 l0_2 l0_3 l0_4 l0_5 = some r) ∧ Aside0 (kq ≤ kj6) ∧ Aside0 (Kd.R k80 80 wc w.heap.size (fun _ => True) u11 x11_6) ∧ Aside0 (wc.heap[gb251]? = some (.cells #[(.slice A0_0 l0_0.length c0_0), (.slice A0_1 l0_1.length c0_1), (.slice A0_2 l0_2.length c0_2), (.slice A0_3 l0_3.length c0_3), (.slice A0_4 l0_4.length c0_4), (.slice A0_5 l0_5.length c0_5)] 38 (0, 0))) ∧ Aside0 (Below w.heap.size w wc))
  case first =>
   have H := HC16.out
   clear HC16
   by_cases c18 : t259 ≥ 0
   rotate_left
   ·rw [if_neg c18] at H
    have c18b0 : decide (0 ≤ t259) = false := decide_eq_false c18
    clear c18
    (skip)
    have H' := aM H
    clear H
    go_wp2
    go_meet
    case rel => exact ⟨_, (false), (by rfl), H', ⟨by have := HJ6.out; omega⟩, ⟨by (with_reducible repeat (apply Kd.R_drewN)); exact HO_11.out⟩, ⟨by (with_reducible repeat (refine blk_drewN ?_ _)); exact BK251.out⟩, ⟨by repeat ((with_reducible first | exact HB.out | apply pw_below_drewN))⟩⟩
   rw [if_pos c18] at H
   have c18b0 : decide (0 ≤ t259) = true := decide_eq_true c18
   clear c18
   (skip)
   by_cases c19 : 0 ≤ t259
   rotate_left
   ·rw [if_neg c19] at H
    exact absurd H (by simp)
   rw [if_pos c19] at H
   have c19b0 : decide (0 ≤ t259) = true := decide_eq_true c19
   clear c19
   by_cases c20 : t259 < (l2.length : Int)
   rotate_left
   ·rw [if_neg c20] at H
    exact absurd H (by simp)
   rw [if_pos c20] at H
   have c20b0 : decide (t259 < (l2.length : Int)) = true := decide_eq_true c20
   clear c20
   have H' := aM H
   clear H
   have p260 : 0 ≤ (t259 : Int) := oD ‹_›
   have q260 : t259 < (l2.length : Int) := oD ‹_›
   obtain ⟨ad260, e260, hx260_0⟩ := Kd.at_int HR2.out t259 p260 q260
   cases e260
   replace hx260_0 := swB HB.out hx260_0
   replace p260 := eq_true p260
   replace q260 := eq_true q260
   go_wp2
   go_meet
   case rel => exact ⟨_, (decide ((rd l2 t259) > 0)), (by rfl), H', ⟨by have := HJ6.out; omega⟩, ⟨by (with_reducible repeat (apply Kd.R_drewN)); exact HO_11.out⟩, ⟨by (with_reducible repeat (refine blk_drewN ?_ _)); exact BK251.out⟩, ⟨by repeat ((with_reducible first | exact HB.out | apply pw_below_drewN))⟩⟩
  clear HC16 hcz17_0 hcz17_1 hcz17_2 hcz17_3 hcz17_4 hcz17_5 hfz17_0 hfz17_1 hfz17_2 hfz17_3 hfz17_4 hfz17_5
  obtain ⟨kq, x38_15, rfl, HA, HJ15, HO_11, BK251, HB⟩ := hcut
  cases kq with
  | zero => exact absurd HA.out (by simp [spec_l07Candidates.j1])
  | succ kj15 =>
   have H := HA.out
   clear HA
   simp only [spec_l07Candidates.j1] at H
   have HC21 := aM H
   clear H
   go_upto_if 38 with (fail)
   go_cut [11] (fun v11 wc => ∃ (kq : Nat) (x11_20 : List (S80)), Aside0 (spec_l07Candidates.j2 kq a1 l3 l4 x11_20 l0_0 l0_1 l0_2 l0_3 l0_4 l0_5 = some r) ∧ Aside0 (kq ≤ kj15) ∧ Aside0 (Kd.R k80 80 wc w.heap.size (fun _ => True) v11 x11_20) ∧ Aside0 (wc.heap[gb251]? = some (.cells #[(.slice A0_0 l0_0.length c0_0), (.slice A0_1 l0_1.length c0_1), (.slice A0_2 l0_2.length c0_2), (.slice A0_3 l0_3.length c0_3), (.slice A0_4 l0_4.length c0_4), (.slice A0_5 l0_5.length c0_5)] 38 (0, 0))) ∧ Aside0 (Below w.heap.size w wc))
   case first =>
    have H := HC21.out
    clear HC21
    by_cases c22 : x38_15 = true
    rotate_left
    ·replace c22 := Bool.eq_false_iff.mpr c22
     subst c22
     rw [if_neg (show ¬ (false = true) by decide)] at H
     have H' := aM H
     clear H
     go_wp2
     go_meet
     case rel => exact ⟨_, (x11_6), H', ⟨by have := HJ6.out; have := HJ15.out; omega⟩, ⟨by exact HO_11.out⟩, ⟨by exact BK251.out⟩, ⟨by repeat ((with_reducible exact HB.out))⟩⟩
    subst c22
    rw [if_pos rfl] at H
    by_cases c23 : 0 ≤ t259
    rotate_left
    ·rw [if_neg c23] at H
     exact absurd H (by simp)
    rw [if_pos c23] at H
    have c23b0 : decide (0 ≤ t259) = true := decide_eq_true c23
    clear c23
    (skip)
    by_cases c24 : t259 < (l2.length : Int)
    rotate_left
    ·rw [if_neg c24] at H
     exact absurd H (by simp)
    rw [if_pos c24] at H
    have c24b0 : decide (t259 < (l2.length : Int)) = true := decide_eq_true c24
    clear c24
    by_cases c25 : x11_6.length < 4398046511104
    rotate_left
    ·rw [if_neg c25] at H
     exact absurd H (by simp)
    rw [if_pos c25] at H
    have LMc25 := aM c25
    clear c25
    obtain ⟨y262, hy262⟩ : ∃ y_ : List (S80), y_ = (x11_6 ++ [(⟨(-1), 100, 2, ((rd l2 t259) == 2)⟩ : S80)]) := ⟨_, rfl⟩
    replace H : (spec_l07Candidates.j2 kj15 a1 l3 l4 y262 l0_0 l0_1 l0_2 l0_3 l0_4 l0_5) = some r := by (rw [hy262]; with_reducible exact H)
    have Ny262 := aM hy262
    clear hy262
    have H' := aM H
    clear H
    have p261 : 0 ≤ (t259 : Int) := oD ‹_›
    have q261 : t259 < (l2.length : Int) := oD ‹_›
    obtain ⟨ad261, e261, hx261_0⟩ := Kd.at_int HR2.out t259 p261 q261
    cases e261
    replace hx261_0 := swB HB.out hx261_0
    replace p261 := eq_true p261
    replace q261 := eq_true q261
    go_wp2_with (((with_reducible refine gate_builtin (b := .append) (xs := #[.tmp 39, .tmp 46]) rfl ?_); at_builtin; refine Kd.R_append k80 (w0 := w) w.heap.size rfl (.tmp 39) (.tmp 46) 31 80 (.agg #[(.int .i64 0), (.int .i64 0), (.int .i64 0), (.bool false)]) 32 rfl Try.underlying31 info80 rfl (by decide) (by omega) u11 x11_6 (⟨(-1), 100, 2, ((rd l2 t259) == 2)⟩ : S80) [.int .i64 (-1), .int .i64 100, .int .i64 2, .bool ((rd l2 t259) == 2)] (fun _ => True) (fun _ => False) rfl rfl ?aP (fun _ hk => hk.elim) ?aF ?aO ?aB ?aS ?aL ?_; (case aP => exact k80_mkM _ _ _ (⟨(-1), 100, 2, ((rd l2 t259) == 2)⟩ : S80)); (case aB => exact HB.out); (case aF => exact (fun _ _ => trivial)); (case aO => exact HO_11.out); (case aS => exact (below_size HB.out)); (case aL => have := LMc25.out; omega); intro v263 w26 ho hb hg hat; rw [← Ny262.out] at ho; replace BK251 := aM (blk_grown BK251.out hg (Kd.R_ne HO_11.out BK251.out (by decide))); replace HB := aM (hb); have HO264 := aM (ho); clear HO_11; clear ho hb hg hat))
    go_meet
    case rel => exact ⟨_, (y262), H', ⟨by have := HJ6.out; have := HJ15.out; omega⟩, ⟨by exact HO264.out⟩, ⟨by exact BK251.out⟩, ⟨by repeat ((with_reducible exact HB.out))⟩⟩
   clear HC21
   obtain ⟨kq, x11_20, HA, HJ20, HO_11, BK251, HB⟩ := hcut
   cases kq with
   | zero => exact absurd HA.out (by simp [spec_l07Candidates.j2])
   | succ kj20 =>
    have H := HA.out
    clear HA
    simp only [spec_l07Candidates.j2] at H
    replace H := bS H
    obtain ⟨t265, A270, H⟩ := H
    replace H : (spec_l07Candidates.l0 kj20 a1 l4 x11_20 t265 0 l0_0 l0_1 l0_2 l0_3 l0_4 l0_5) = some r := H
    have A27 := aM A270
    clear A270
    have H' := aM H
    clear H
    obtain ⟨hcz28_0, hcz28_1, hcz28_2, hcz28_3, hcz28_4, hcz28_5⟩ := swc6 BK251.out
    obtain ⟨hfz28_0, hfz28_1, hfz28_2, hfz28_3, hfz28_4, hfz28_5⟩ := swf6 BK251.out
    go_wp2_with ((go_at_call 63; (with_reducible refine (spec_l06Neighbours.calls kj20 _ _ l0_0 _ _ l0_1 _ _ l0_2 _ _ l0_3 _ _ l0_4 _ _ l0_5 a1 _ _ l3 t265 _ (Kd.C_below HR0_0.out HB.out) HC0_0.out (Kd.C_below HR0_1.out HB.out) HC0_1.out (Kd.C_below HR0_2.out HB.out) HC0_2.out (Kd.C_below HR0_3.out HB.out) HC0_3.out (Kd.C_below HR0_4.out HB.out) HC0_4.out (Kd.C_below HR0_5.out HB.out) HC0_5.out (Kd.C_below HR3.out HB.out) HC3.out A27.out).mono ?_); rintro e w29 ⟨v266, rfl, ho0, hb⟩; replace HO_11 := aM (Kd.R_below HO_11.out hb); have HO267 := aM (Kd.R_lower ho0 (below_size HB.out)); replace BK251 := aK BK251 hb; replace HB := aB HB hb; (try clear hb); (try clear ho0)))
    go_loopg [11, 14] kj20 (fun kq v11 v14 w' => ∃ (x11_4 : List (S80)) (x14_4 : Int), v14 = .int .i64 x14_4 ∧ Aside0 (spec_l07Candidates.l0 kq a1 l4 x11_4 t265 x14_4 l0_0 l0_1 l0_2 l0_3 l0_4 l0_5 = some r) ∧ Aside0 (kq ≤ kj20) ∧ Aside0 (Kd.R k80 80 w' w.heap.size (fun _ => True) v11 x11_4) ∧ Aside0 (Kd.R (Kd.int .i64) 3 w' w.heap.size (fun _ => True) v266 t265) ∧ Aside0 (w'.heap[gb251]? = some (.cells #[(.slice A0_0 l0_0.length c0_0), (.slice A0_1 l0_1.length c0_1), (.slice A0_2 l0_2.length c0_2), (.slice A0_3 l0_3.length c0_3), (.slice A0_4 l0_4.length c0_4), (.slice A0_5 l0_5.length c0_5)] 38 (0, 0))) ∧ Aside0 (Below w.heap.size w w'))
    case atStart => exact ⟨(x11_20), (0), (by rfl), H', ⟨Nat.le_refl _⟩, ⟨by exact HO_11.out⟩, ⟨by exact HO267.out⟩, ⟨by exact BK251.out⟩, ⟨by repeat ((with_reducible exact HB.out))⟩⟩
    clear H'
    clear hcz28_0 hcz28_1 hcz28_2 hcz28_3 hcz28_4 hcz28_5 hfz28_0 hfz28_1 hfz28_2 hfz28_3 hfz28_4 hfz28_5
    obtain ⟨x11_4, x14_4, rfl, HA, HK4, HO_11, HO_13, BK251, HB⟩ := hrel
    cases gk with
    | zero => exact absurd HA.out (by simp [spec_l07Candidates.l0])
    | succ k4 =>
     have H := HA.out
     clear HA
     simp only [spec_l07Candidates.l0] at H
     by_cases c30 : x14_4 < (t265.length : Int)
     rotate_left
     ·rw [if_neg c30] at H
      have c30b0 : decide (x14_4 < (t265.length : Int)) = false := decide_eq_false c30
      clear c30
      obtain rfl := Option.some.inj H
      obtain ⟨Ao67, co67, eo67⟩ := Kd.R_slice HO_13.out
      subst eo67
      go_wp2
      go_ret
      exact ⟨_, by rfl, by exact HO_11.out, by repeat ((with_reducible exact HB.out))⟩
     rw [if_pos c30] at H
     have c30b0 : decide (x14_4 < (t265.length : Int)) = true := decide_eq_true c30
     clear c30
     have HC31 := aM H
     clear H
     obtain ⟨Ao32, co32, eo32⟩ := Kd.R_slice HO_13.out
     subst eo32
     go_upto_region 11 with (fail)
     go_cut [75] (fun v75 wc => ∃ (kq : Nat) (x75_30 : Bool), v75 = .bool x75_30 ∧ Aside0 (spec_l07Candidates.j4 kq a1 l4 x11_4 t265 x14_4 x75_30 l0_0 l0_1 l0_2 l0_3 l0_4 l0_5 = some r) ∧ Aside0 (kq ≤ k4) ∧ Aside0 (Kd.R k80 80 wc w.heap.size (fun _ => True) u11 x11_4) ∧ Aside0 (Kd.R (Kd.int .i64) 3 wc w.heap.size (fun _ => True) (.slice Ao32 t265.length co32) t265) ∧ Aside0 (wc.heap[gb251]? = some (.cells #[(.slice A0_0 l0_0.length c0_0), (.slice A0_1 l0_1.length c0_1), (.slice A0_2 l0_2.length c0_2), (.slice A0_3 l0_3.length c0_3), (.slice A0_4 l0_4.length c0_4), (.slice A0_5 l0_5.length c0_5)] 38 (0, 0))) ∧ Aside0 (Below w.heap.size w wc))
     case first =>
      have H := HC31.out
      clear HC31
      by_cases c33 : 0 ≤ x14_4
      rotate_left
      ·rw [if_neg c33] at H
       exact absurd H (by simp)
      rw [if_pos c33] at H
      have c33b0 : decide (0 ≤ x14_4) = true := decide_eq_true c33
      clear c33
      (skip)
      by_cases c34 : 0 ≤ (rd t265 x14_4)
      rotate_left
      ·rw [if_neg c34] at H
       exact absurd H (by simp)
      rw [if_pos c34] at H
      have c34b0 : decide (0 ≤ (rd t265 x14_4)) = true := decide_eq_true c34
      clear c34
      by_cases c35 : (rd t265 x14_4) < (l4.length : Int)
      rotate_left
      ·rw [if_neg c35] at H
       exact absurd H (by simp)
      rw [if_pos c35] at H
      have c35b0 : decide ((rd t265 x14_4) < (l4.length : Int)) = true := decide_eq_true c35
      clear c35
      by_cases c36 : ((rd_T80 l4 (rd t265 x14_4)).f0) = (-3)
      ·rw [if_pos c36] at H
       have c36b0 : (((rd_T80 l4 (rd t265 x14_4)).f0) == (-3)) = true := beq_iff_eq.mpr c36
       have c36b1 : (((rd_T80 l4 (rd t265 x14_4)).f0) != (-3)) = false := bne_eq_false_iff_eq.mpr c36
       clear c36
       have H' := aM H
       clear H
       have p268 : 0 ≤ (x14_4 : Int) := oD ‹_›
       have q268 : x14_4 < (t265.length : Int) := oD ‹_›
       obtain ⟨ad268, e268, hx268_0⟩ := Kd.at_int (Kd.R_reads' HO_13.out).2.2 x14_4 p268 q268
       cases e268
       replace p268 := eq_true p268
       replace q268 := eq_true q268
       have p269 : 0 ≤ ((rd t265 x14_4) : Int) := oD ‹_›
       have q269 : (rd t265 x14_4) < (l4.length : Int) := oD ‹_›
       obtain ⟨ad269, e269, hx269_0, hx269_1, hx269_2, hx269_3⟩ := at_T80 HR4.out (rd t265 x14_4) p269 q269
       cases e269
       replace hx269_0 := swB HB.out hx269_0
       replace hx269_1 := swB HB.out hx269_1
       replace hx269_2 := swB HB.out hx269_2
       replace hx269_3 := swB HB.out hx269_3
       replace p269 := eq_true p269
       replace q269 := eq_true q269
       go_wp2
       go_meet
       case rel => exact ⟨_, (true), (by rfl), H', ⟨by have := HJ6.out; have := HJ15.out; have := HJ20.out; have := HK4.out; omega⟩, ⟨by exact HO_11.out⟩, ⟨by exact HO_13.out⟩, ⟨by exact BK251.out⟩, ⟨by repeat ((with_reducible exact HB.out))⟩⟩
      rw [if_neg c36] at H
      have c36b0 : (((rd_T80 l4 (rd t265 x14_4)).f0) == (-3)) = false := beq_eq_false_iff_ne.mpr c36
      have c36b1 : (((rd_T80 l4 (rd t265 x14_4)).f0) != (-3)) = true := bne_iff_ne.mpr c36
      replace H := bS H
      obtain ⟨t271, A370, H⟩ := H
      replace H : (spec_l07Candidates.j4 k4 a1 l4 x11_4 t265 x14_4 t271 l0_0 l0_1 l0_2 l0_3 l0_4 l0_5) = some r := H
      have A37 := aM A370
      clear A370
      have H' := aM H
      clear H
      have p268 : 0 ≤ (x14_4 : Int) := oD ‹_›
      have q268 : x14_4 < (t265.length : Int) := oD ‹_›
      obtain ⟨ad268, e268, hx268_0⟩ := Kd.at_int (Kd.R_reads' HO_13.out).2.2 x14_4 p268 q268
      cases e268
      replace p268 := eq_true p268
      replace q268 := eq_true q268
      have p269 : 0 ≤ ((rd t265 x14_4) : Int) := oD ‹_›
      have q269 : (rd t265 x14_4) < (l4.length : Int) := oD ‹_›
      obtain ⟨ad269, e269, hx269_0, hx269_1, hx269_2, hx269_3⟩ := at_T80 HR4.out (rd t265 x14_4) p269 q269
      cases e269
      replace hx269_0 := swB HB.out hx269_0
      replace hx269_1 := swB HB.out hx269_1
      replace hx269_2 := swB HB.out hx269_2
      replace hx269_3 := swB HB.out hx269_3
      replace p269 := eq_true p269
      replace q269 := eq_true q269
      have p270 : 0 ≤ (x14_4 : Int) := oD ‹_›
      have q270 : x14_4 < (t265.length : Int) := oD ‹_›
      obtain ⟨ad270, e270, hx270_0⟩ := Kd.at_int (Kd.R_reads' HO_13.out).2.2 x14_4 p270 q270
      obtain rfl : ad268 = ad270 := (by injection e270)
      replace p270 := eq_true p270
      replace q270 := eq_true q270
      go_wp2_with ((go_at_call 100; (with_reducible refine (spec_l07Through.calls k4 _ _ l4 (rd t265 x14_4) a1 t271 _ (Kd.C_below HR4.out HB.out) HC4.out A37.out).mono ?_); rintro e w' ⟨rfl, ⟨nd, rfl⟩⟩))
      go_meet
      case rel => exact ⟨_, (t271), (by rfl), H', ⟨by have := HJ6.out; have := HJ15.out; have := HJ20.out; have := HK4.out; omega⟩, ⟨by (with_reducible repeat (apply Kd.R_drewN)); exact HO_11.out⟩, ⟨by (with_reducible repeat (apply Kd.R_drewN)); exact HO_13.out⟩, ⟨by (with_reducible repeat (refine blk_drewN ?_ _)); exact BK251.out⟩, ⟨by repeat ((with_reducible first | exact HB.out | apply pw_below_drewN))⟩⟩
     clear HC31 c30b0
     obtain ⟨kq, x75_30, rfl, HA, HJ30, HO_11, HO_13, BK251, HB⟩ := hcut
     cases kq with
     | zero => exact absurd HA.out (by simp [spec_l07Candidates.j4])
     | succ kj30 =>
      have H := HA.out
      clear HA
      simp only [spec_l07Candidates.j4] at H
      by_cases c38 : x75_30 = true
      ·subst c38
       rw [if_pos rfl] at H
       have H' := aM H
       clear H
       go_wp2
       go_roundg kj30
       case measure => have := HJ6.out; have := HJ15.out; have := HJ20.out; have := HK4.out; have := HJ30.out; omega
       case rel => exact ⟨(x11_4), (wrap64 (x14_4 + 1)), (by rfl), H', ⟨by have := HJ6.out; have := HJ15.out; have := HJ20.out; have := HK4.out; have := HJ30.out; omega⟩, ⟨by exact HO_11.out⟩, ⟨by exact HO_13.out⟩, ⟨by exact BK251.out⟩, ⟨by repeat ((with_reducible exact HB.out))⟩⟩
      replace c38 := Bool.eq_false_iff.mpr c38
      subst c38
      rw [if_neg (show ¬ (false = true) by decide)] at H
      by_cases c39 : 0 ≤ x14_4
      rotate_left
      ·rw [if_neg c39] at H
       exact absurd H (by simp)
      rw [if_pos c39] at H
      have c39b0 : decide (0 ≤ x14_4) = true := decide_eq_true c39
      clear c39
      by_cases c40 : x14_4 < (t265.length : Int)
      rotate_left
      ·rw [if_neg c40] at H
       exact absurd H (by simp)
      rw [if_pos c40] at H
      have c40b0 : decide (x14_4 < (t265.length : Int)) = true := decide_eq_true c40
      clear c40
      by_cases c41 : 0 ≤ (rd t265 x14_4)
      rotate_left
      ·rw [if_neg c41] at H
       exact absurd H (by simp)
      rw [if_pos c41] at H
      have c41b0 : decide (0 ≤ (rd t265 x14_4)) = true := decide_eq_true c41
      clear c41
      by_cases c42 : (rd t265 x14_4) < (l4.length : Int)
      rotate_left
      ·rw [if_neg c42] at H
       exact absurd H (by simp)
      rw [if_pos c42] at H
      have c42b0 : decide ((rd t265 x14_4) < (l4.length : Int)) = true := decide_eq_true c42
      clear c42
      replace H := bS H
      obtain ⟨⟨t275, t276, t277, t278⟩, A430, H⟩ := H
      replace H : (if t275 = (-3) then (spec_l07Candidates.l0 kj30 a1 l4 x11_4 t265 (wrap64 (x14_4 + 1)) l0_0 l0_1 l0_2 l0_3 l0_4 l0_5) else (if x11_4.length < 4398046511104 then (spec_l07Candidates.l0 kj30 a1 l4 (x11_4 ++ [(⟨t275, t276, t277, t278⟩ : S80)]) t265 (wrap64 (x14_4 + 1)) l0_0 l0_1 l0_2 l0_3 l0_4 l0_5) else (none))) = some r := H
      have A43 := aM A430
      clear A430
      by_cases c44 : t275 = (-3)
      ·rw [if_pos c44] at H
       have c44b0 : (t275 == (-3)) = true := beq_iff_eq.mpr c44
       have c44b1 : (t275 != (-3)) = false := bne_eq_false_iff_eq.mpr c44
       clear c44
       have H' := aM H
       clear H
       try go_wp2
       replace HO_11 := aM (Kd.R_drew HO_11.out)
       replace HO_13 := aM (Kd.R_drew HO_13.out)
       replace BK251 := aM (blk_drew BK251.out)
       replace HB := aM (below_drew1 HB.out)
       have p272 : 0 ≤ (x14_4 : Int) := oD ‹_›
       have q272 : x14_4 < (t265.length : Int) := oD ‹_›
       obtain ⟨ad272, e272, hx272_0⟩ := Kd.at_int (Kd.R_reads' HO_13.out).2.2 x14_4 p272 q272
       cases e272
       replace p272 := eq_true p272
       replace q272 := eq_true q272
       have p273 : 0 ≤ (x14_4 : Int) := oD ‹_›
       have q273 : x14_4 < (t265.length : Int) := oD ‹_›
       obtain ⟨ad273, e273, hx273_0⟩ := Kd.at_int (Kd.R_reads' HO_13.out).2.2 x14_4 p273 q273
       obtain rfl : ad272 = ad273 := (by injection e273)
       replace p273 := eq_true p273
       replace q273 := eq_true q273
       have p274 : 0 ≤ ((rd t265 x14_4) : Int) := oD ‹_›
       have q274 : (rd t265 x14_4) < (l4.length : Int) := oD ‹_›
       obtain ⟨ad274, e274, hx274_0, hx274_1, hx274_2, hx274_3⟩ := at_T80 HR4.out (rd t265 x14_4) p274 q274
       have hw274_3 := hx274_3
       have hw274_2 := hx274_2
       have hw274_1 := hx274_1
       have hw274_0 := hx274_0
       cases e274
       replace hx274_0 := swB HB.out hx274_0
       replace hx274_1 := swB HB.out hx274_1
       replace hx274_2 := swB HB.out hx274_2
       replace hx274_3 := swB HB.out hx274_3
       replace p274 := eq_true p274
       replace q274 := eq_true q274
       refine start_ (n := 16) (S := fun w' => w'.cell? ⟨gb251, 0, none⟩ = some (.slice A0_0 l0_0.length c0_0) ∧ w'.cell? ⟨gb251, 1, none⟩ = some (.slice A0_1 l0_1.length c0_1) ∧ w'.cell? ⟨gb251, 2, none⟩ = some (.slice A0_2 l0_2.length c0_2) ∧ w'.cell? ⟨gb251, 3, none⟩ = some (.slice A0_3 l0_3.length c0_3) ∧ w'.cell? ⟨gb251, 4, none⟩ = some (.slice A0_4 l0_4.length c0_4) ∧ w'.cell? ⟨gb251, 5, none⟩ = some (.slice A0_5 l0_5.length c0_5) ∧ w'.cell? (ad272.add (x14_4).toNat) = some (.int .i64 (rd t265 x14_4)) ∧ w'.cell? (ad272.add (x14_4).toNat) = some (.int .i64 (rd t265 x14_4)) ∧ w'.cell? (ad274.add (((rd t265 x14_4)).toNat * 4)) = some (.int .i64 ((rd_T80 l4 (rd t265 x14_4)).f0)) ∧ w'.cell? ⟨(ad274.add (((rd t265 x14_4)).toNat * 4)).block, (ad274.add (((rd t265 x14_4)).toNat * 4)).off + 1, none⟩ = some (.int .i64 ((rd_T80 l4 (rd t265 x14_4)).f1)) ∧ w'.cell? ⟨(ad274.add (((rd t265 x14_4)).toNat * 4)).block, (ad274.add (((rd t265 x14_4)).toNat * 4)).off + 2, none⟩ = some (.int .i64 ((rd_T80 l4 (rd t265 x14_4)).f2)) ∧ w'.cell? ⟨(ad274.add (((rd t265 x14_4)).toNat * 4)).block, (ad274.add (((rd t265 x14_4)).toNat * 4)).off + 3, none⟩ = some (.bool ((rd_T80 l4 (rd t265 x14_4)).f3))) (ds := []) (bA 16 0) (by kernel_rfl) rfl rfl (andc6 BK251.out ⟨hx272_0, hx273_0, (swB HB.out hw274_0), (swB HB.out hw274_1), (swB HB.out hw274_2), (swB HB.out hw274_3)⟩) (fun hHeld => ?_); refine with_tabW spec_l07Candidates.tab12 spec_l07Candidates.bits12 (fun HT_ HW_ => ?_)
       generalize wc.drew = w45 at HO_11 HO_13 BK251 HB hx272_0 hx273_0 hx274_0 hx274_1 hx274_2 hx274_3 hHeld ⊢
       refine pure_ (i := 1) (N := some 77) (bA 16 2) rfl rfl (any_of HT_.out (by kernel_rfl)) (fun _ _ _ h => h) (.inl ⟨by rfl, by intro w'; go_simp; with_reducible rfl⟩) (by simp only [Act.put, sb0, sb1, sb2, i64_w, i32_w]; rfl) ?_
       refine pure_ (i := 2) (N := some 78) (bA 16 6) rfl rfl (any_of HT_.out (by kernel_rfl)) (fun _ _ _ h => h) (.inl ⟨by rfl, by intro w'; go_simp; with_reducible rfl⟩) (by simp only [Act.put, sb0, sb1, sb2, i64_w, i32_w]; rfl) ?_
       refine pure_ (i := 3) (N := some 79) (bA 16 14) rfl rfl (any_of HT_.out (by kernel_rfl)) (fun _ _ _ h => h) (.inl ⟨by rfl, by intro w'; go_simp; with_reducible rfl⟩) (by simp only [Act.put, sb0, sb1, sb2, i64_w, i32_w]; rfl) ?_
       refine pure_ (i := 4) (N := some 80) (bA 16 30) rfl rfl (any_of HT_.out (by kernel_rfl)) (fun _ _ _ h => h) (.inl ⟨by rfl, by intro w'; go_simp; with_reducible rfl⟩) (by simp only [Act.put, sb0, sb1, sb2, i64_w, i32_w]; rfl) ?_
       refine pure_ (i := 6) (N := some 82) (bA 16 94) rfl rfl (any_of HT_.out (by kernel_rfl)) (fun _ _ _ h => h) (.inl ⟨by rfl, by intro w'; go_simp; with_reducible rfl⟩) (by simp only [Act.put, sb0, sb1, sb2, i64_w, i32_w]; rfl) ?_
       refine pure_ (i := 7) (N := some 83) (bA 16 222) rfl rfl (any_of HT_.out (by kernel_rfl)) (fun _ _ _ h => h) (.inl ⟨by rfl, by intro w'; go_simp; with_reducible rfl⟩) (by simp only [Act.put, sb0, sb1, sb2, i64_w, i32_w]; rfl) ?_
       refine pure_ (i := 8) (N := some 84) (bA 16 478) rfl rfl (any_of HT_.out (by kernel_rfl)) (fun _ _ _ h => h) (.inl ⟨by rfl, by intro w'; go_simp; with_reducible rfl⟩) (by simp only [Act.put, sb0, sb1, sb2, i64_w, i32_w]; rfl) ?_
       refine pure_ (i := 9) (N := some 85) (bA 16 990) rfl rfl (any_of HT_.out (by kernel_rfl)) (fun _ _ _ h => h) (.inl ⟨by rfl, by intro w'; go_simp; with_reducible rfl⟩) (by simp only [Act.put, sb0, sb1, sb2, i64_w, i32_w]; rfl) ?_
       refine take_ (i := 0) (N := some 76) (bA 16 991) rfl rfl (take_ofW HT_.out HW_.out (by kernel_rfl)) (fun _ _ _ h => h) (.inl ⟨by rfl, by rintro w' ⟨s0, s1, s2, s3, s4, s5, s6, s7, s8, s9, s10, s11⟩; go_simp; with_reducible rfl⟩) hHeld (by simp only [Act.put, sb0, sb1, sb2, i64_w, i32_w]; rfl) ?_
       refine take_ (i := 5) (N := some 81) (bA 16 1023) rfl rfl (take_ofW HT_.out HW_.out (by kernel_rfl)) (fun _ _ _ h => h) (.inl ⟨by rfl, by rintro w' ⟨s0, s1, s2, s3, s4, s5, s6, s7, s8, s9, s10, s11⟩; go_simp; with_reducible rfl⟩) hHeld (by simp only [Act.put, sb0, sb1, sb2, i64_w, i32_w]; rfl) ?_
       refine take_ (i := 10) (N := some 86) (bA 16 2047) rfl rfl (take_ofW HT_.out HW_.out (by kernel_rfl)) (fun _ _ _ h => h) (.inl ⟨by rfl, by rintro w' ⟨s0, s1, s2, s3, s4, s5, s6, s7, s8, s9, s10, s11⟩; go_simp; with_reducible rfl⟩) hHeld (by simp only [Act.put, sb0, sb1, sb2, i64_w, i32_w]; rfl) ?_
       refine pure_ (i := 11) (N := some 87) (bA 16 4095) rfl rfl (any_of HT_.out (by kernel_rfl)) (fun _ _ _ h => h) (.inl ⟨by rfl, by intro w'; go_simp; with_reducible rfl⟩) (by simp only [Act.put, sb0, sb1, sb2, i64_w, i32_w]; rfl) ?_
       refine take_ (i := 12) (N := some 88) (bA 16 8191) rfl rfl (take_ofW HT_.out HW_.out (by kernel_rfl)) (fun _ _ _ h => h) (.inl ⟨by rfl, by rintro w' ⟨s0, s1, s2, s3, s4, s5, s6, s7, s8, s9, s10, s11⟩; go_simp; with_reducible rfl⟩) hHeld (by simp only [Act.put, sb0, sb1, sb2, i64_w, i32_w]; rfl) ?_
       refine join_ (σ := Nat) 1 (bA 16 32767) (fun s_ => [(89, .agg #[.int .i64 t275, .int .i64 t276, .int .i64 t277, .bool t278]), (15, .pointer (some ⟨s_, 0, none⟩))]) (fun s_ w' => (w'.cell? ⟨gb251, 0, none⟩ = some (.slice A0_0 l0_0.length c0_0) ∧ w'.cell? ⟨gb251, 1, none⟩ = some (.slice A0_1 l0_1.length c0_1) ∧ w'.cell? ⟨gb251, 2, none⟩ = some (.slice A0_2 l0_2.length c0_2) ∧ w'.cell? ⟨gb251, 3, none⟩ = some (.slice A0_3 l0_3.length c0_3) ∧ w'.cell? ⟨gb251, 4, none⟩ = some (.slice A0_4 l0_4.length c0_4) ∧ w'.cell? ⟨gb251, 5, none⟩ = some (.slice A0_5 l0_5.length c0_5) ∧ w'.cell? (ad272.add (x14_4).toNat) = some (.int .i64 (rd t265 x14_4)) ∧ w'.cell? (ad272.add (x14_4).toNat) = some (.int .i64 (rd t265 x14_4)) ∧ w'.cell? (ad274.add (((rd t265 x14_4)).toNat * 4)) = some (.int .i64 ((rd_T80 l4 (rd t265 x14_4)).f0)) ∧ w'.cell? ⟨(ad274.add (((rd t265 x14_4)).toNat * 4)).block, (ad274.add (((rd t265 x14_4)).toNat * 4)).off + 1, none⟩ = some (.int .i64 ((rd_T80 l4 (rd t265 x14_4)).f1)) ∧ w'.cell? ⟨(ad274.add (((rd t265 x14_4)).toNat * 4)).block, (ad274.add (((rd t265 x14_4)).toNat * 4)).off + 2, none⟩ = some (.int .i64 ((rd_T80 l4 (rd t265 x14_4)).f2)) ∧ w'.cell? ⟨(ad274.add (((rd t265 x14_4)).toNat * 4)).block, (ad274.add (((rd t265 x14_4)).toNat * 4)).off + 3, none⟩ = some (.bool ((rd_T80 l4 (rd t265 x14_4)).f3))) ∧ (Kd.R k80 80 w' w.heap.size (fun k_ => k_ ≠ s_) u11 x11_4) ∧ (Kd.R (Kd.int .i64) 3 w' w.heap.size (fun _ => True) (.slice (some ad272) t265.length co32) t265) ∧ (w'.heap[gb251]? = some (.cells #[.slice A0_0 l0_0.length c0_0, .slice A0_1 l0_1.length c0_1, .slice A0_2 l0_2.length c0_2, .slice A0_3 l0_3.length c0_3, .slice A0_4 l0_4.length c0_4, .slice A0_5 l0_5.length c0_5] 38 (0, 0))) ∧ (w'.heap[s_]? = some (.cells #[.int .i64 0, .int .i64 0, .int .i64 0, .bool false] 80 (0, 0))) ∧ (w.heap.size ≤ s_) ∧ (w.heap.size ≤ s_) ∧ (gb251 ≠ s_) ∧ (s_ ≠ gb251) ∧ (Below w.heap.size w w')) ?_ ?_
       rotate_left
       ·intro hCont
        refine two_ (i := 13) (j := 14) (Ni := some 89) (Nj := some 15) (bA 16 16383) (bA 16 24575) rfl rfl rfl rfl (two_of HT_.out (by kernel_rfl)) (by decide) (by decide) (fun K hK => ?_) (fun K hK => ?_)
        ·skip
         refine goes_ Try.func101 (by kernel_rfl) rfl #[.agg #[.slice A0_0 l0_0.length c0_0, .slice A0_1 l0_1.length c0_1, .slice A0_2 l0_2.length c0_2, .slice A0_3 l0_3.length c0_3, .slice A0_4 l0_4.length c0_4, .slice A0_5 l0_5.length c0_5], .int .i64 a1, .int .i64 (rd t265 x14_4), .agg #[.int .i64 ((rd_T80 l4 (rd t265 x14_4)).f0), .int .i64 ((rd_T80 l4 (rd t265 x14_4)).f1), .int .i64 ((rd_T80 l4 (rd t265 x14_4)).f2), .bool ((rd_T80 l4 (rd t265 x14_4)).f3)]] (by rfl) rfl rfl (by (try simp only [List.map_toArray, List.map_cons, List.map_nil]); rfl) ?_
         with_reducible refine (spec_l07Import.calls kj30 _ _ l0_0 _ _ l0_1 _ _ l0_2 _ _ l0_3 _ _ l0_4 _ _ l0_5 a1 (rd t265 x14_4) ((rd_T80 l4 (rd t265 x14_4)).f0) ((rd_T80 l4 (rd t265 x14_4)).f1) ((rd_T80 l4 (rd t265 x14_4)).f2) ((rd_T80 l4 (rd t265 x14_4)).f3) t275 t276 t277 t278 _ ?side1 ?side2 ?side3 ?side4 ?side5 ?side6 ?side7 ?side8 ?side9 ?side10 ?side11 ?side12 A43.out).mono ?_
         (case side1 => exact (Kd.C_below HR0_0.out HB.out))
         (case side2 => exact HC0_0.out)
         (case side3 => exact (Kd.C_below HR0_1.out HB.out))
         (case side4 => exact HC0_1.out)
         (case side5 => exact (Kd.C_below HR0_2.out HB.out))
         (case side6 => exact HC0_2.out)
         (case side7 => exact (Kd.C_below HR0_3.out HB.out))
         (case side8 => exact HC0_3.out)
         (case side9 => exact (Kd.C_below HR0_4.out HB.out))
         (case side10 => exact HC0_4.out)
         (case side11 => exact (Kd.C_below HR0_5.out HB.out))
         (case side12 => exact HC0_5.out)
         rintro e w46 ⟨rfl, hb⟩
         have HS6_ := (hb.cell (World.block_lt_of_cell? _ _ (hHeld.2.2.2.2.2.2.1))).trans (hHeld.2.2.2.2.2.2.1)
         have HS7_ := (hb.cell (World.block_lt_of_cell? _ _ (hHeld.2.2.2.2.2.2.2.1))).trans (hHeld.2.2.2.2.2.2.2.1)
         refine ⟨_, rfl, ?_⟩
         replace HO_11 := aM (Kd.R_below HO_11.out hb)
         replace HO_13 := aM (Kd.R_below HO_13.out hb)
         replace BK251 := aK BK251 hb
         replace HB := aB HB hb
         (try clear hb)
         refine hK.out _ _ (andc6 BK251.out ⟨HS6_, HS7_, (swB HB.out hw274_0), (swB HB.out hw274_1), (swB HB.out hw274_2), (swB HB.out hw274_3)⟩) (fun hHeld => ?_)
         clear hK K
         refine norm_ (a' := ?_) ?_ ?_
         rotate_left
         ·show Act.put _ (some 89) _ = _
          simp only [Act.put, sb0, sb1, sb2, i64_w, i32_w]
          rfl
         refine one_ (i := 14) (N := some 15) (bA 16 32767) rfl rfl (one_of HT_.out (by kernel_rfl)) (by decide) (fun K hK => ?_)
         refine box_step ?hg (N := 15) ?hd (cs := #[.int .i64 0, .int .i64 0, .int .i64 0, .bool false]) (t := 80) ?hr ?_; (case hd => rfl); (case hg => rfl); (case hr => (go_simp; done))
         intro gb279 hg w47 hbox hb
         have HS6_ := (hb.cell (World.block_lt_of_cell? _ _ (hHeld.2.2.2.2.2.2.1))).trans (hHeld.2.2.2.2.2.2.1)
         have HS7_ := (hb.cell (World.block_lt_of_cell? _ _ (hHeld.2.2.2.2.2.2.2.1))).trans (hHeld.2.2.2.2.2.2.2.1)
         replace HO_11 := aM (Kd.R_below (Kd.R_elderB HO_11.out gb279 (Nat.le_of_eq hg.symm)) hb)
         replace HO_13 := aM (Kd.R_below HO_13.out hb)
         have BK279 := aM (hbox)
         have GW279 := bGE HB.out hg
         have GE279 := bGE HB.out hg
         replace HB := aB HB hb
         have NB251_279 := bLT BK251.out hg
         have NB279_251 := bGT BK251.out hg
         replace BK251 := aK BK251 hb
         clear hb hbox hg
         refine hK.out _ _ (andc6 BK251.out ⟨HS6_, HS7_, (swB HB.out hw274_0), (swB HB.out hw274_1), (swB HB.out hw274_2), (swB HB.out hw274_3)⟩) (fun hHeld => ?_)
         clear hK K
         refine norm_ (a' := ?_) ?_ ?_
         rotate_left
         ·show Act.put _ (some 15) _ = _
          simp only [Act.put, sb0, sb1, sb2, i64_w, i32_w]
          rfl
         exact norm_ (by simp only [putAll, Act.put, List.setIfInBounds_toArray, List.set_cons_zero, List.set_cons_succ]) (hCont (gb279) _ ⟨hHeld, (by exact Kd.R_mono HO_11.out (fun _ hk => hk.2)), HO_13.out, BK251.out, BK279.out, GW279.out, GE279.out, NB251_279.out, NB279_251.out, HB.out⟩)
        skip
        refine box_step ?hg (N := 15) ?hd (cs := #[.int .i64 0, .int .i64 0, .int .i64 0, .bool false]) (t := 80) ?hr ?_; (case hd => rfl); (case hg => rfl); (case hr => (go_simp; done))
        intro gb279 hg w46 hbox hb
        have HS6_ := (hb.cell (World.block_lt_of_cell? _ _ (hHeld.2.2.2.2.2.2.1))).trans (hHeld.2.2.2.2.2.2.1)
        have HS7_ := (hb.cell (World.block_lt_of_cell? _ _ (hHeld.2.2.2.2.2.2.2.1))).trans (hHeld.2.2.2.2.2.2.2.1)
        replace HO_11 := aM (Kd.R_below (Kd.R_elderB HO_11.out gb279 (Nat.le_of_eq hg.symm)) hb)
        replace HO_13 := aM (Kd.R_below HO_13.out hb)
        have BK279 := aM (hbox)
        have GW279 := bGE HB.out hg
        have GE279 := bGE HB.out hg
        replace HB := aB HB hb
        have NB251_279 := bLT BK251.out hg
        have NB279_251 := bGT BK251.out hg
        replace BK251 := aK BK251 hb
        clear hb hbox hg
        refine hK.out _ _ (andc6 BK251.out ⟨HS6_, HS7_, (swB HB.out hw274_0), (swB HB.out hw274_1), (swB HB.out hw274_2), (swB HB.out hw274_3)⟩) (fun hHeld => ?_)
        clear hK K
        refine norm_ (a' := ?_) ?_ ?_
        rotate_left
        ·show Act.put _ (some 15) _ = _
         simp only [Act.put, sb0, sb1, sb2, i64_w, i32_w]
         rfl
        refine one_ (i := 13) (N := some 89) (bA 16 32767) rfl rfl (one_of HT_.out (by kernel_rfl)) (by decide) (fun K hK => ?_)
        refine goes_ Try.func101 (by kernel_rfl) rfl #[.agg #[.slice A0_0 l0_0.length c0_0, .slice A0_1 l0_1.length c0_1, .slice A0_2 l0_2.length c0_2, .slice A0_3 l0_3.length c0_3, .slice A0_4 l0_4.length c0_4, .slice A0_5 l0_5.length c0_5], .int .i64 a1, .int .i64 (rd t265 x14_4), .agg #[.int .i64 ((rd_T80 l4 (rd t265 x14_4)).f0), .int .i64 ((rd_T80 l4 (rd t265 x14_4)).f1), .int .i64 ((rd_T80 l4 (rd t265 x14_4)).f2), .bool ((rd_T80 l4 (rd t265 x14_4)).f3)]] (by rfl) rfl rfl (by (try simp only [List.map_toArray, List.map_cons, List.map_nil]); rfl) ?_
        with_reducible refine (spec_l07Import.calls kj30 _ _ l0_0 _ _ l0_1 _ _ l0_2 _ _ l0_3 _ _ l0_4 _ _ l0_5 a1 (rd t265 x14_4) ((rd_T80 l4 (rd t265 x14_4)).f0) ((rd_T80 l4 (rd t265 x14_4)).f1) ((rd_T80 l4 (rd t265 x14_4)).f2) ((rd_T80 l4 (rd t265 x14_4)).f3) t275 t276 t277 t278 _ ?side1 ?side2 ?side3 ?side4 ?side5 ?side6 ?side7 ?side8 ?side9 ?side10 ?side11 ?side12 A43.out).mono ?_
        (case side1 => exact (Kd.C_below HR0_0.out HB.out))
        (case side2 => exact HC0_0.out)
        (case side3 => exact (Kd.C_below HR0_1.out HB.out))
        (case side4 => exact HC0_1.out)
        (case side5 => exact (Kd.C_below HR0_2.out HB.out))
        (case side6 => exact HC0_2.out)
        (case side7 => exact (Kd.C_below HR0_3.out HB.out))
        (case side8 => exact HC0_3.out)
        (case side9 => exact (Kd.C_below HR0_4.out HB.out))
        (case side10 => exact HC0_4.out)
        (case side11 => exact (Kd.C_below HR0_5.out HB.out))
        (case side12 => exact HC0_5.out)
        rintro e w47 ⟨rfl, hb⟩
        have HS6_ := (hb.cell (World.block_lt_of_cell? _ _ (hHeld.2.2.2.2.2.2.1))).trans (hHeld.2.2.2.2.2.2.1)
        have HS7_ := (hb.cell (World.block_lt_of_cell? _ _ (hHeld.2.2.2.2.2.2.2.1))).trans (hHeld.2.2.2.2.2.2.2.1)
        refine ⟨_, rfl, ?_⟩
        replace HO_11 := aM (Kd.R_below HO_11.out hb)
        replace HO_13 := aM (Kd.R_below HO_13.out hb)
        replace BK251 := aK BK251 hb
        replace BK279 := aK BK279 hb
        replace HB := aB HB hb
        (try clear hb)
        refine hK.out _ _ (andc6 BK251.out ⟨HS6_, HS7_, (swB HB.out hw274_0), (swB HB.out hw274_1), (swB HB.out hw274_2), (swB HB.out hw274_3)⟩) (fun hHeld => ?_)
        clear hK K
        refine norm_ (a' := ?_) ?_ ?_
        rotate_left
        ·show Act.put _ (some 89) _ = _
         simp only [Act.put, sb0, sb1, sb2, i64_w, i32_w]
         rfl
        exact norm_ (by simp only [putAll, Act.put, List.setIfInBounds_toArray, List.set_cons_zero, List.set_cons_succ]) (hCont (gb279) _ ⟨hHeld, (by exact Kd.R_mono HO_11.out (fun _ hk => hk.2)), HO_13.out, BK251.out, BK279.out, GW279.out, GE279.out, NB251_279.out, NB279_251.out, HB.out⟩)
       rintro gb279 w48 ⟨hS_, h0_, h1_, h2_, h3_, h4_, h5_, h6_, h7_, h8_⟩
       have n0_ : Aside0 (Kd.R k80 80 w48 w.heap.size (fun k_ => k_ ≠ gb279) u11 x11_4) := ⟨h0_⟩
       have n1_ : Aside0 (Kd.R (Kd.int .i64) 3 w48 w.heap.size (fun _ => True) (.slice (some ad272) t265.length co32) t265) := ⟨h1_⟩
       have n2_ : Aside0 (w48.heap[gb251]? = some (.cells #[.slice A0_0 l0_0.length c0_0, .slice A0_1 l0_1.length c0_1, .slice A0_2 l0_2.length c0_2, .slice A0_3 l0_3.length c0_3, .slice A0_4 l0_4.length c0_4, .slice A0_5 l0_5.length c0_5] 38 (0, 0))) := ⟨h2_⟩
       have n3_ : Aside0 (w48.heap[gb279]? = some (.cells #[.int .i64 0, .int .i64 0, .int .i64 0, .bool false] 80 (0, 0))) := ⟨h3_⟩
       have n4_ : Aside0 (w.heap.size ≤ gb279) := ⟨h4_⟩
       have n5_ : Aside0 (w.heap.size ≤ gb279) := ⟨h5_⟩
       have n6_ : Aside0 (gb251 ≠ gb279) := ⟨h6_⟩
       have n7_ : Aside0 (gb279 ≠ gb251) := ⟨h7_⟩
       have n8_ : Aside0 (Below w.heap.size w w48) := ⟨h8_⟩
       clear HO_11 HO_13 BK251 HB h0_ h1_ h2_ h3_ h4_ h5_ h6_ h7_ h8_
       have HO_11 := n0_
       have HO_13 := n1_
       have BK251 := n2_
       have BK279 := n3_
       have GW279 := n4_
       have GE279 := n5_
       have NB251_279 := n6_
       have NB279_251 := n7_
       have HB := n8_
       clear n0_ n1_ n2_ n3_ n4_ n5_ n6_ n7_ n8_
       have hHeld : w48.cell? ⟨gb251, 0, none⟩ = some (.slice A0_0 l0_0.length c0_0) ∧ w48.cell? ⟨gb251, 1, none⟩ = some (.slice A0_1 l0_1.length c0_1) ∧ w48.cell? ⟨gb251, 2, none⟩ = some (.slice A0_2 l0_2.length c0_2) ∧ w48.cell? ⟨gb251, 3, none⟩ = some (.slice A0_3 l0_3.length c0_3) ∧ w48.cell? ⟨gb251, 4, none⟩ = some (.slice A0_4 l0_4.length c0_4) ∧ w48.cell? ⟨gb251, 5, none⟩ = some (.slice A0_5 l0_5.length c0_5) ∧ w48.cell? (ad272.add (x14_4).toNat) = some (.int .i64 (rd t265 x14_4)) ∧ w48.cell? (ad272.add (x14_4).toNat) = some (.int .i64 (rd t265 x14_4)) ∧ w48.cell? (ad274.add (((rd t265 x14_4)).toNat * 4)) = some (.int .i64 ((rd_T80 l4 (rd t265 x14_4)).f0)) ∧ w48.cell? ⟨(ad274.add (((rd t265 x14_4)).toNat * 4)).block, (ad274.add (((rd t265 x14_4)).toNat * 4)).off + 1, none⟩ = some (.int .i64 ((rd_T80 l4 (rd t265 x14_4)).f1)) ∧ w48.cell? ⟨(ad274.add (((rd t265 x14_4)).toNat * 4)).block, (ad274.add (((rd t265 x14_4)).toNat * 4)).off + 2, none⟩ = some (.int .i64 ((rd_T80 l4 (rd t265 x14_4)).f2)) ∧ w48.cell? ⟨(ad274.add (((rd t265 x14_4)).toNat * 4)).block, (ad274.add (((rd t265 x14_4)).toNat * 4)).off + 3, none⟩ = some (.bool ((rd_T80 l4 (rd t265 x14_4)).f3)) := hS_
       refine norm_ (a' := ?_) ?_ ?_
       rotate_left
       ·simp only [putAll, Act.put, List.setIfInBounds_toArray, List.set_cons_zero, List.set_cons_succ]
        rfl
       refine one_ (i := 15) (N := none) (bA 16 65535) rfl rfl (one_of HT_.out (by kernel_rfl)) (by decide) (fun K hK => ?_)
       have hs49 : w48.cell? ⟨gb279, 0, none⟩ = some (.int .i64 0) := (blk_cell BK279.out 0).trans rfl
       have hfs49 := blk_frozen BK279.out 0
       have hns49_0 := NB251_279.out
       have hms49_0 := NB279_251.out
       have hs50 : w48.cell? ⟨gb279, 1, none⟩ = some (.int .i64 0) := (blk_cell BK279.out 1).trans rfl
       have hfs50 := blk_frozen BK279.out 1
       have hns50_0 := NB251_279.out
       have hms50_0 := NB279_251.out
       have hs51 : w48.cell? ⟨gb279, 2, none⟩ = some (.int .i64 0) := (blk_cell BK279.out 2).trans rfl
       have hfs51 := blk_frozen BK279.out 2
       have hns51_0 := NB251_279.out
       have hms51_0 := NB279_251.out
       have hs52 : w48.cell? ⟨gb279, 3, none⟩ = some (.bool false) := (blk_cell BK279.out 3).trans rfl
       have hfs52 := blk_frozen BK279.out 3
       have hns52_0 := NB251_279.out
       have hms52_0 := NB279_251.out
       refine skip_ (w1 := ?_) (by rfl) rfl ?_ ?_
       rotate_left
       ·go_simp
        rfl
       refine hK.out _ _ ⟨((cell_far (p := ⟨gb279, _, none⟩) NB251_279.out _).trans (((cell_far (p := ⟨gb279, _, none⟩) NB251_279.out _).trans (((cell_far (p := ⟨gb279, _, none⟩) NB251_279.out _).trans (((cell_far (p := ⟨gb279, _, none⟩) NB251_279.out _).trans (hHeld.1)))))))), ((cell_far (p := ⟨gb279, _, none⟩) NB251_279.out _).trans (((cell_far (p := ⟨gb279, _, none⟩) NB251_279.out _).trans (((cell_far (p := ⟨gb279, _, none⟩) NB251_279.out _).trans (((cell_far (p := ⟨gb279, _, none⟩) NB251_279.out _).trans (hHeld.2.1)))))))), ((cell_far (p := ⟨gb279, _, none⟩) NB251_279.out _).trans (((cell_far (p := ⟨gb279, _, none⟩) NB251_279.out _).trans (((cell_far (p := ⟨gb279, _, none⟩) NB251_279.out _).trans (((cell_far (p := ⟨gb279, _, none⟩) NB251_279.out _).trans (hHeld.2.2.1)))))))), ((cell_far (p := ⟨gb279, _, none⟩) NB251_279.out _).trans (((cell_far (p := ⟨gb279, _, none⟩) NB251_279.out _).trans (((cell_far (p := ⟨gb279, _, none⟩) NB251_279.out _).trans (((cell_far (p := ⟨gb279, _, none⟩) NB251_279.out _).trans (hHeld.2.2.2.1)))))))), ((cell_far (p := ⟨gb279, _, none⟩) NB251_279.out _).trans (((cell_far (p := ⟨gb279, _, none⟩) NB251_279.out _).trans (((cell_far (p := ⟨gb279, _, none⟩) NB251_279.out _).trans (((cell_far (p := ⟨gb279, _, none⟩) NB251_279.out _).trans (hHeld.2.2.2.2.1)))))))), ((cell_far (p := ⟨gb279, _, none⟩) NB251_279.out _).trans (((cell_far (p := ⟨gb279, _, none⟩) NB251_279.out _).trans (((cell_far (p := ⟨gb279, _, none⟩) NB251_279.out _).trans (((cell_far (p := ⟨gb279, _, none⟩) NB251_279.out _).trans (hHeld.2.2.2.2.2.1)))))))), ((cell_far (p := ⟨gb279, _, none⟩) (by (rw [add_block]; exact Kd.own_blk (Kd.R_ne HO_13.out BK279.out (by decide)))) _).trans (((cell_far (p := ⟨gb279, _, none⟩) (by (rw [add_block]; exact Kd.own_blk (Kd.R_ne HO_13.out BK279.out (by decide)))) _).trans (((cell_far (p := ⟨gb279, _, none⟩) (by (rw [add_block]; exact Kd.own_blk (Kd.R_ne HO_13.out BK279.out (by decide)))) _).trans (((cell_far (p := ⟨gb279, _, none⟩) (by (rw [add_block]; exact Kd.own_blk (Kd.R_ne HO_13.out BK279.out (by decide)))) _).trans (hHeld.2.2.2.2.2.2.1)))))))), ((cell_far (p := ⟨gb279, _, none⟩) (by (rw [add_block]; exact Kd.own_blk (Kd.R_ne HO_13.out BK279.out (by decide)))) _).trans (((cell_far (p := ⟨gb279, _, none⟩) (by (rw [add_block]; exact Kd.own_blk (Kd.R_ne HO_13.out BK279.out (by decide)))) _).trans (((cell_far (p := ⟨gb279, _, none⟩) (by (rw [add_block]; exact Kd.own_blk (Kd.R_ne HO_13.out BK279.out (by decide)))) _).trans (((cell_far (p := ⟨gb279, _, none⟩) (by (rw [add_block]; exact Kd.own_blk (Kd.R_ne HO_13.out BK279.out (by decide)))) _).trans (hHeld.2.2.2.2.2.2.2.1)))))))), ((cell_far (p := ⟨gb279, _, none⟩) (by exact Nat.ne_of_lt (Nat.lt_of_lt_of_le (by have := World.block_lt_of_cell? _ _ hw274_0; exact this) GW279.out)) _).trans (((cell_far (p := ⟨gb279, _, none⟩) (by exact Nat.ne_of_lt (Nat.lt_of_lt_of_le (by have := World.block_lt_of_cell? _ _ hw274_0; exact this) GW279.out)) _).trans (((cell_far (p := ⟨gb279, _, none⟩) (by exact Nat.ne_of_lt (Nat.lt_of_lt_of_le (by have := World.block_lt_of_cell? _ _ hw274_0; exact this) GW279.out)) _).trans (((cell_far (p := ⟨gb279, _, none⟩) (by exact Nat.ne_of_lt (Nat.lt_of_lt_of_le (by have := World.block_lt_of_cell? _ _ hw274_0; exact this) GW279.out)) _).trans (hHeld.2.2.2.2.2.2.2.2.1)))))))), ((cell_far (p := ⟨gb279, _, none⟩) (by exact Nat.ne_of_lt (Nat.lt_of_lt_of_le (by have := World.block_lt_of_cell? _ _ hw274_1; exact this) GW279.out)) _).trans (((cell_far (p := ⟨gb279, _, none⟩) (by exact Nat.ne_of_lt (Nat.lt_of_lt_of_le (by have := World.block_lt_of_cell? _ _ hw274_1; exact this) GW279.out)) _).trans (((cell_far (p := ⟨gb279, _, none⟩) (by exact Nat.ne_of_lt (Nat.lt_of_lt_of_le (by have := World.block_lt_of_cell? _ _ hw274_1; exact this) GW279.out)) _).trans (((cell_far (p := ⟨gb279, _, none⟩) (by exact Nat.ne_of_lt (Nat.lt_of_lt_of_le (by have := World.block_lt_of_cell? _ _ hw274_1; exact this) GW279.out)) _).trans (hHeld.2.2.2.2.2.2.2.2.2.1)))))))), ((cell_far (p := ⟨gb279, _, none⟩) (by exact Nat.ne_of_lt (Nat.lt_of_lt_of_le (by have := World.block_lt_of_cell? _ _ hw274_2; exact this) GW279.out)) _).trans (((cell_far (p := ⟨gb279, _, none⟩) (by exact Nat.ne_of_lt (Nat.lt_of_lt_of_le (by have := World.block_lt_of_cell? _ _ hw274_2; exact this) GW279.out)) _).trans (((cell_far (p := ⟨gb279, _, none⟩) (by exact Nat.ne_of_lt (Nat.lt_of_lt_of_le (by have := World.block_lt_of_cell? _ _ hw274_2; exact this) GW279.out)) _).trans (((cell_far (p := ⟨gb279, _, none⟩) (by exact Nat.ne_of_lt (Nat.lt_of_lt_of_le (by have := World.block_lt_of_cell? _ _ hw274_2; exact this) GW279.out)) _).trans (hHeld.2.2.2.2.2.2.2.2.2.2.1)))))))), ((cell_far (p := ⟨gb279, _, none⟩) (by exact Nat.ne_of_lt (Nat.lt_of_lt_of_le (by have := World.block_lt_of_cell? _ _ hw274_3; exact this) GW279.out)) _).trans (((cell_far (p := ⟨gb279, _, none⟩) (by exact Nat.ne_of_lt (Nat.lt_of_lt_of_le (by have := World.block_lt_of_cell? _ _ hw274_3; exact this) GW279.out)) _).trans (((cell_far (p := ⟨gb279, _, none⟩) (by exact Nat.ne_of_lt (Nat.lt_of_lt_of_le (by have := World.block_lt_of_cell? _ _ hw274_3; exact this) GW279.out)) _).trans (((cell_far (p := ⟨gb279, _, none⟩) (by exact Nat.ne_of_lt (Nat.lt_of_lt_of_le (by have := World.block_lt_of_cell? _ _ hw274_3; exact this) GW279.out)) _).trans (hHeld.2.2.2.2.2.2.2.2.2.2.2))))))))⟩ (fun hHeld => ?_)
       clear hK K
       refine done_ (done_of HT_.out (by kernel_rfl)) ?_
       have hnb53 := NB279_251.out
       have hnc53 := NB251_279.out
       obtain ⟨hcz54_0, hcz54_1, hcz54_2, hcz54_3⟩ := swc4 BK279.out
       obtain ⟨hfz54_0, hfz54_1, hfz54_2, hfz54_3⟩ := swf4 BK279.out
       try go_wp2
       go_roundg kj30
       case measure => have := HJ6.out; have := HJ15.out; have := HJ20.out; have := HK4.out; have := HJ30.out; omega
       case rel => exact ⟨(x11_4), (wrap64 (x14_4 + 1)), (by rfl), H', ⟨by have := HJ6.out; have := HJ15.out; have := HJ20.out; have := HK4.out; have := HJ30.out; omega⟩, ⟨by exact Kd.R_mono (Kd.R_far (p := ⟨gb279, 3, none⟩) (Kd.R_far (p := ⟨gb279, 2, none⟩) (Kd.R_far (p := ⟨gb279, 1, none⟩) (Kd.R_far (p := ⟨gb279, 0, none⟩) (Kd.R_mono HO_11.out (fun k_ hk => (⟨hk, hk⟩ : _ ∧ k_ ≠ gb279))) (fun _ hk => hk.2) (.int .i64 t275)) (fun _ hk => hk.2) (.int .i64 t276)) (fun _ hk => hk.2) (.int .i64 t277)) (fun _ hk => hk.2) (.bool t278)) (fun _ hk => trivial)⟩, ⟨by exact Kd.R_mono (Kd.R_far (p := ⟨gb279, 3, none⟩) (Kd.R_far (p := ⟨gb279, 2, none⟩) (Kd.R_far (p := ⟨gb279, 1, none⟩) (Kd.R_far (p := ⟨gb279, 0, none⟩) (Kd.R_types HO_13.out BK279.out (by decide)) (fun _ hk => hk.2) (.int .i64 t275)) (fun _ hk => hk.2) (.int .i64 t276)) (fun _ hk => hk.2) (.int .i64 t277)) (fun _ hk => hk.2) (.bool t278)) (fun _ hk => trivial)⟩, ⟨by refine blk_far ?_ NB251_279.out _; refine blk_far ?_ NB251_279.out _; refine blk_far ?_ NB251_279.out _; refine blk_far ?_ NB251_279.out _; exact BK251.out⟩, ⟨by repeat ((with_reducible first | exact HB.out | refine below_set ?_ GE279.out))⟩⟩
      rw [if_neg c44] at H
      have c44b0 : (t275 == (-3)) = false := beq_eq_false_iff_ne.mpr c44
      have c44b1 : (t275 != (-3)) = true := bne_iff_ne.mpr c44
      by_cases c55 : x11_4.length < 4398046511104
      rotate_left
      ·rw [if_neg c55] at H
       exact absurd H (by simp)
      rw [if_pos c55] at H
      have LMc55 := aM c55
      clear c55
      obtain ⟨y280, hy280⟩ : ∃ y_ : List (S80), y_ = (x11_4 ++ [(⟨t275, t276, t277, t278⟩ : S80)]) := ⟨_, rfl⟩
      replace H : (spec_l07Candidates.l0 kj30 a1 l4 y280 t265 (wrap64 (x14_4 + 1)) l0_0 l0_1 l0_2 l0_3 l0_4 l0_5) = some r := by (rw [hy280]; with_reducible exact H)
      have Ny280 := aM hy280
      clear hy280
      have H' := aM H
      clear H
      try go_wp2
      replace HO_11 := aM (Kd.R_drew HO_11.out)
      replace HO_13 := aM (Kd.R_drew HO_13.out)
      replace BK251 := aM (blk_drew BK251.out)
      replace HB := aM (below_drew1 HB.out)
      have p272 : 0 ≤ (x14_4 : Int) := oD ‹_›
      have q272 : x14_4 < (t265.length : Int) := oD ‹_›
      obtain ⟨ad272, e272, hx272_0⟩ := Kd.at_int (Kd.R_reads' HO_13.out).2.2 x14_4 p272 q272
      cases e272
      replace p272 := eq_true p272
      replace q272 := eq_true q272
      have p273 : 0 ≤ (x14_4 : Int) := oD ‹_›
      have q273 : x14_4 < (t265.length : Int) := oD ‹_›
      obtain ⟨ad273, e273, hx273_0⟩ := Kd.at_int (Kd.R_reads' HO_13.out).2.2 x14_4 p273 q273
      obtain rfl : ad272 = ad273 := (by injection e273)
      replace p273 := eq_true p273
      replace q273 := eq_true q273
      have p274 : 0 ≤ ((rd t265 x14_4) : Int) := oD ‹_›
      have q274 : (rd t265 x14_4) < (l4.length : Int) := oD ‹_›
      obtain ⟨ad274, e274, hx274_0, hx274_1, hx274_2, hx274_3⟩ := at_T80 HR4.out (rd t265 x14_4) p274 q274
      have hw274_3 := hx274_3
      have hw274_2 := hx274_2
      have hw274_1 := hx274_1
      have hw274_0 := hx274_0
      cases e274
      replace hx274_0 := swB HB.out hx274_0
      replace hx274_1 := swB HB.out hx274_1
      replace hx274_2 := swB HB.out hx274_2
      replace hx274_3 := swB HB.out hx274_3
      replace p274 := eq_true p274
      replace q274 := eq_true q274
      refine start_ (n := 16) (S := fun w' => w'.cell? ⟨gb251, 0, none⟩ = some (.slice A0_0 l0_0.length c0_0) ∧ w'.cell? ⟨gb251, 1, none⟩ = some (.slice A0_1 l0_1.length c0_1) ∧ w'.cell? ⟨gb251, 2, none⟩ = some (.slice A0_2 l0_2.length c0_2) ∧ w'.cell? ⟨gb251, 3, none⟩ = some (.slice A0_3 l0_3.length c0_3) ∧ w'.cell? ⟨gb251, 4, none⟩ = some (.slice A0_4 l0_4.length c0_4) ∧ w'.cell? ⟨gb251, 5, none⟩ = some (.slice A0_5 l0_5.length c0_5) ∧ w'.cell? (ad272.add (x14_4).toNat) = some (.int .i64 (rd t265 x14_4)) ∧ w'.cell? (ad272.add (x14_4).toNat) = some (.int .i64 (rd t265 x14_4)) ∧ w'.cell? (ad274.add (((rd t265 x14_4)).toNat * 4)) = some (.int .i64 ((rd_T80 l4 (rd t265 x14_4)).f0)) ∧ w'.cell? ⟨(ad274.add (((rd t265 x14_4)).toNat * 4)).block, (ad274.add (((rd t265 x14_4)).toNat * 4)).off + 1, none⟩ = some (.int .i64 ((rd_T80 l4 (rd t265 x14_4)).f1)) ∧ w'.cell? ⟨(ad274.add (((rd t265 x14_4)).toNat * 4)).block, (ad274.add (((rd t265 x14_4)).toNat * 4)).off + 2, none⟩ = some (.int .i64 ((rd_T80 l4 (rd t265 x14_4)).f2)) ∧ w'.cell? ⟨(ad274.add (((rd t265 x14_4)).toNat * 4)).block, (ad274.add (((rd t265 x14_4)).toNat * 4)).off + 3, none⟩ = some (.bool ((rd_T80 l4 (rd t265 x14_4)).f3))) (ds := []) (bA 16 0) (by kernel_rfl) rfl rfl (andc6 BK251.out ⟨hx272_0, hx273_0, (swB HB.out hw274_0), (swB HB.out hw274_1), (swB HB.out hw274_2), (swB HB.out hw274_3)⟩) (fun hHeld => ?_); refine with_tabW spec_l07Candidates.tab12 spec_l07Candidates.bits12 (fun HT_ HW_ => ?_)
      generalize wc.drew = w56 at HO_11 HO_13 BK251 HB hx272_0 hx273_0 hx274_0 hx274_1 hx274_2 hx274_3 hHeld ⊢
      refine pure_ (i := 1) (N := some 77) (bA 16 2) rfl rfl (any_of HT_.out (by kernel_rfl)) (fun _ _ _ h => h) (.inl ⟨by rfl, by intro w'; go_simp; with_reducible rfl⟩) (by simp only [Act.put, sb0, sb1, sb2, i64_w, i32_w]; rfl) ?_
      refine pure_ (i := 2) (N := some 78) (bA 16 6) rfl rfl (any_of HT_.out (by kernel_rfl)) (fun _ _ _ h => h) (.inl ⟨by rfl, by intro w'; go_simp; with_reducible rfl⟩) (by simp only [Act.put, sb0, sb1, sb2, i64_w, i32_w]; rfl) ?_
      refine pure_ (i := 3) (N := some 79) (bA 16 14) rfl rfl (any_of HT_.out (by kernel_rfl)) (fun _ _ _ h => h) (.inl ⟨by rfl, by intro w'; go_simp; with_reducible rfl⟩) (by simp only [Act.put, sb0, sb1, sb2, i64_w, i32_w]; rfl) ?_
      refine pure_ (i := 4) (N := some 80) (bA 16 30) rfl rfl (any_of HT_.out (by kernel_rfl)) (fun _ _ _ h => h) (.inl ⟨by rfl, by intro w'; go_simp; with_reducible rfl⟩) (by simp only [Act.put, sb0, sb1, sb2, i64_w, i32_w]; rfl) ?_
      refine pure_ (i := 6) (N := some 82) (bA 16 94) rfl rfl (any_of HT_.out (by kernel_rfl)) (fun _ _ _ h => h) (.inl ⟨by rfl, by intro w'; go_simp; with_reducible rfl⟩) (by simp only [Act.put, sb0, sb1, sb2, i64_w, i32_w]; rfl) ?_
      refine pure_ (i := 7) (N := some 83) (bA 16 222) rfl rfl (any_of HT_.out (by kernel_rfl)) (fun _ _ _ h => h) (.inl ⟨by rfl, by intro w'; go_simp; with_reducible rfl⟩) (by simp only [Act.put, sb0, sb1, sb2, i64_w, i32_w]; rfl) ?_
      refine pure_ (i := 8) (N := some 84) (bA 16 478) rfl rfl (any_of HT_.out (by kernel_rfl)) (fun _ _ _ h => h) (.inl ⟨by rfl, by intro w'; go_simp; with_reducible rfl⟩) (by simp only [Act.put, sb0, sb1, sb2, i64_w, i32_w]; rfl) ?_
      refine pure_ (i := 9) (N := some 85) (bA 16 990) rfl rfl (any_of HT_.out (by kernel_rfl)) (fun _ _ _ h => h) (.inl ⟨by rfl, by intro w'; go_simp; with_reducible rfl⟩) (by simp only [Act.put, sb0, sb1, sb2, i64_w, i32_w]; rfl) ?_
      refine take_ (i := 0) (N := some 76) (bA 16 991) rfl rfl (take_ofW HT_.out HW_.out (by kernel_rfl)) (fun _ _ _ h => h) (.inl ⟨by rfl, by rintro w' ⟨s0, s1, s2, s3, s4, s5, s6, s7, s8, s9, s10, s11⟩; go_simp; with_reducible rfl⟩) hHeld (by simp only [Act.put, sb0, sb1, sb2, i64_w, i32_w]; rfl) ?_
      refine take_ (i := 5) (N := some 81) (bA 16 1023) rfl rfl (take_ofW HT_.out HW_.out (by kernel_rfl)) (fun _ _ _ h => h) (.inl ⟨by rfl, by rintro w' ⟨s0, s1, s2, s3, s4, s5, s6, s7, s8, s9, s10, s11⟩; go_simp; with_reducible rfl⟩) hHeld (by simp only [Act.put, sb0, sb1, sb2, i64_w, i32_w]; rfl) ?_
      refine take_ (i := 10) (N := some 86) (bA 16 2047) rfl rfl (take_ofW HT_.out HW_.out (by kernel_rfl)) (fun _ _ _ h => h) (.inl ⟨by rfl, by rintro w' ⟨s0, s1, s2, s3, s4, s5, s6, s7, s8, s9, s10, s11⟩; go_simp; with_reducible rfl⟩) hHeld (by simp only [Act.put, sb0, sb1, sb2, i64_w, i32_w]; rfl) ?_
      refine pure_ (i := 11) (N := some 87) (bA 16 4095) rfl rfl (any_of HT_.out (by kernel_rfl)) (fun _ _ _ h => h) (.inl ⟨by rfl, by intro w'; go_simp; with_reducible rfl⟩) (by simp only [Act.put, sb0, sb1, sb2, i64_w, i32_w]; rfl) ?_
      refine take_ (i := 12) (N := some 88) (bA 16 8191) rfl rfl (take_ofW HT_.out HW_.out (by kernel_rfl)) (fun _ _ _ h => h) (.inl ⟨by rfl, by rintro w' ⟨s0, s1, s2, s3, s4, s5, s6, s7, s8, s9, s10, s11⟩; go_simp; with_reducible rfl⟩) hHeld (by simp only [Act.put, sb0, sb1, sb2, i64_w, i32_w]; rfl) ?_
      refine join_ (σ := Nat) 1 (bA 16 32767) (fun s_ => [(89, .agg #[.int .i64 t275, .int .i64 t276, .int .i64 t277, .bool t278]), (15, .pointer (some ⟨s_, 0, none⟩))]) (fun s_ w' => (w'.cell? ⟨gb251, 0, none⟩ = some (.slice A0_0 l0_0.length c0_0) ∧ w'.cell? ⟨gb251, 1, none⟩ = some (.slice A0_1 l0_1.length c0_1) ∧ w'.cell? ⟨gb251, 2, none⟩ = some (.slice A0_2 l0_2.length c0_2) ∧ w'.cell? ⟨gb251, 3, none⟩ = some (.slice A0_3 l0_3.length c0_3) ∧ w'.cell? ⟨gb251, 4, none⟩ = some (.slice A0_4 l0_4.length c0_4) ∧ w'.cell? ⟨gb251, 5, none⟩ = some (.slice A0_5 l0_5.length c0_5) ∧ w'.cell? (ad272.add (x14_4).toNat) = some (.int .i64 (rd t265 x14_4)) ∧ w'.cell? (ad272.add (x14_4).toNat) = some (.int .i64 (rd t265 x14_4)) ∧ w'.cell? (ad274.add (((rd t265 x14_4)).toNat * 4)) = some (.int .i64 ((rd_T80 l4 (rd t265 x14_4)).f0)) ∧ w'.cell? ⟨(ad274.add (((rd t265 x14_4)).toNat * 4)).block, (ad274.add (((rd t265 x14_4)).toNat * 4)).off + 1, none⟩ = some (.int .i64 ((rd_T80 l4 (rd t265 x14_4)).f1)) ∧ w'.cell? ⟨(ad274.add (((rd t265 x14_4)).toNat * 4)).block, (ad274.add (((rd t265 x14_4)).toNat * 4)).off + 2, none⟩ = some (.int .i64 ((rd_T80 l4 (rd t265 x14_4)).f2)) ∧ w'.cell? ⟨(ad274.add (((rd t265 x14_4)).toNat * 4)).block, (ad274.add (((rd t265 x14_4)).toNat * 4)).off + 3, none⟩ = some (.bool ((rd_T80 l4 (rd t265 x14_4)).f3))) ∧ (Kd.R k80 80 w' w.heap.size (fun k_ => k_ ≠ s_) u11 x11_4) ∧ (Kd.R (Kd.int .i64) 3 w' w.heap.size (fun _ => True) (.slice (some ad272) t265.length co32) t265) ∧ (w'.heap[gb251]? = some (.cells #[.slice A0_0 l0_0.length c0_0, .slice A0_1 l0_1.length c0_1, .slice A0_2 l0_2.length c0_2, .slice A0_3 l0_3.length c0_3, .slice A0_4 l0_4.length c0_4, .slice A0_5 l0_5.length c0_5] 38 (0, 0))) ∧ (w'.heap[s_]? = some (.cells #[.int .i64 0, .int .i64 0, .int .i64 0, .bool false] 80 (0, 0))) ∧ (w.heap.size ≤ s_) ∧ (w.heap.size ≤ s_) ∧ (gb251 ≠ s_) ∧ (s_ ≠ gb251) ∧ (Below w.heap.size w w')) ?_ ?_
      rotate_left
      ·intro hCont
       refine two_ (i := 13) (j := 14) (Ni := some 89) (Nj := some 15) (bA 16 16383) (bA 16 24575) rfl rfl rfl rfl (two_of HT_.out (by kernel_rfl)) (by decide) (by decide) (fun K hK => ?_) (fun K hK => ?_)
       ·skip
        refine goes_ Try.func101 (by kernel_rfl) rfl #[.agg #[.slice A0_0 l0_0.length c0_0, .slice A0_1 l0_1.length c0_1, .slice A0_2 l0_2.length c0_2, .slice A0_3 l0_3.length c0_3, .slice A0_4 l0_4.length c0_4, .slice A0_5 l0_5.length c0_5], .int .i64 a1, .int .i64 (rd t265 x14_4), .agg #[.int .i64 ((rd_T80 l4 (rd t265 x14_4)).f0), .int .i64 ((rd_T80 l4 (rd t265 x14_4)).f1), .int .i64 ((rd_T80 l4 (rd t265 x14_4)).f2), .bool ((rd_T80 l4 (rd t265 x14_4)).f3)]] (by rfl) rfl rfl (by (try simp only [List.map_toArray, List.map_cons, List.map_nil]); rfl) ?_
        with_reducible refine (spec_l07Import.calls kj30 _ _ l0_0 _ _ l0_1 _ _ l0_2 _ _ l0_3 _ _ l0_4 _ _ l0_5 a1 (rd t265 x14_4) ((rd_T80 l4 (rd t265 x14_4)).f0) ((rd_T80 l4 (rd t265 x14_4)).f1) ((rd_T80 l4 (rd t265 x14_4)).f2) ((rd_T80 l4 (rd t265 x14_4)).f3) t275 t276 t277 t278 _ ?side1 ?side2 ?side3 ?side4 ?side5 ?side6 ?side7 ?side8 ?side9 ?side10 ?side11 ?side12 A43.out).mono ?_
        (case side1 => exact (Kd.C_below HR0_0.out HB.out))
        (case side2 => exact HC0_0.out)
        (case side3 => exact (Kd.C_below HR0_1.out HB.out))
        (case side4 => exact HC0_1.out)
        (case side5 => exact (Kd.C_below HR0_2.out HB.out))
        (case side6 => exact HC0_2.out)
        (case side7 => exact (Kd.C_below HR0_3.out HB.out))
        (case side8 => exact HC0_3.out)
        (case side9 => exact (Kd.C_below HR0_4.out HB.out))
        (case side10 => exact HC0_4.out)
        (case side11 => exact (Kd.C_below HR0_5.out HB.out))
        (case side12 => exact HC0_5.out)
        rintro e w57 ⟨rfl, hb⟩
        have HS6_ := (hb.cell (World.block_lt_of_cell? _ _ (hHeld.2.2.2.2.2.2.1))).trans (hHeld.2.2.2.2.2.2.1)
        have HS7_ := (hb.cell (World.block_lt_of_cell? _ _ (hHeld.2.2.2.2.2.2.2.1))).trans (hHeld.2.2.2.2.2.2.2.1)
        refine ⟨_, rfl, ?_⟩
        replace HO_11 := aM (Kd.R_below HO_11.out hb)
        replace HO_13 := aM (Kd.R_below HO_13.out hb)
        replace BK251 := aK BK251 hb
        replace HB := aB HB hb
        (try clear hb)
        refine hK.out _ _ (andc6 BK251.out ⟨HS6_, HS7_, (swB HB.out hw274_0), (swB HB.out hw274_1), (swB HB.out hw274_2), (swB HB.out hw274_3)⟩) (fun hHeld => ?_)
        clear hK K
        refine norm_ (a' := ?_) ?_ ?_
        rotate_left
        ·show Act.put _ (some 89) _ = _
         simp only [Act.put, sb0, sb1, sb2, i64_w, i32_w]
         rfl
        refine one_ (i := 14) (N := some 15) (bA 16 32767) rfl rfl (one_of HT_.out (by kernel_rfl)) (by decide) (fun K hK => ?_)
        refine box_step ?hg (N := 15) ?hd (cs := #[.int .i64 0, .int .i64 0, .int .i64 0, .bool false]) (t := 80) ?hr ?_; (case hd => rfl); (case hg => rfl); (case hr => (go_simp; done))
        intro gb279 hg w58 hbox hb
        have HS6_ := (hb.cell (World.block_lt_of_cell? _ _ (hHeld.2.2.2.2.2.2.1))).trans (hHeld.2.2.2.2.2.2.1)
        have HS7_ := (hb.cell (World.block_lt_of_cell? _ _ (hHeld.2.2.2.2.2.2.2.1))).trans (hHeld.2.2.2.2.2.2.2.1)
        replace HO_11 := aM (Kd.R_below (Kd.R_elderB HO_11.out gb279 (Nat.le_of_eq hg.symm)) hb)
        replace HO_13 := aM (Kd.R_below HO_13.out hb)
        have BK279 := aM (hbox)
        have GW279 := bGE HB.out hg
        have GE279 := bGE HB.out hg
        replace HB := aB HB hb
        have NB251_279 := bLT BK251.out hg
        have NB279_251 := bGT BK251.out hg
        replace BK251 := aK BK251 hb
        clear hb hbox hg
        refine hK.out _ _ (andc6 BK251.out ⟨HS6_, HS7_, (swB HB.out hw274_0), (swB HB.out hw274_1), (swB HB.out hw274_2), (swB HB.out hw274_3)⟩) (fun hHeld => ?_)
        clear hK K
        refine norm_ (a' := ?_) ?_ ?_
        rotate_left
        ·show Act.put _ (some 15) _ = _
         simp only [Act.put, sb0, sb1, sb2, i64_w, i32_w]
         rfl
        exact norm_ (by simp only [putAll, Act.put, List.setIfInBounds_toArray, List.set_cons_zero, List.set_cons_succ]) (hCont (gb279) _ ⟨hHeld, (by exact Kd.R_mono HO_11.out (fun _ hk => hk.2)), HO_13.out, BK251.out, BK279.out, GW279.out, GE279.out, NB251_279.out, NB279_251.out, HB.out⟩)
       skip
       refine box_step ?hg (N := 15) ?hd (cs := #[.int .i64 0, .int .i64 0, .int .i64 0, .bool false]) (t := 80) ?hr ?_; (case hd => rfl); (case hg => rfl); (case hr => (go_simp; done))
       intro gb279 hg w57 hbox hb
       have HS6_ := (hb.cell (World.block_lt_of_cell? _ _ (hHeld.2.2.2.2.2.2.1))).trans (hHeld.2.2.2.2.2.2.1)
       have HS7_ := (hb.cell (World.block_lt_of_cell? _ _ (hHeld.2.2.2.2.2.2.2.1))).trans (hHeld.2.2.2.2.2.2.2.1)
       replace HO_11 := aM (Kd.R_below (Kd.R_elderB HO_11.out gb279 (Nat.le_of_eq hg.symm)) hb)
       replace HO_13 := aM (Kd.R_below HO_13.out hb)
       have BK279 := aM (hbox)
       have GW279 := bGE HB.out hg
       have GE279 := bGE HB.out hg
       replace HB := aB HB hb
       have NB251_279 := bLT BK251.out hg
       have NB279_251 := bGT BK251.out hg
       replace BK251 := aK BK251 hb
       clear hb hbox hg
       refine hK.out _ _ (andc6 BK251.out ⟨HS6_, HS7_, (swB HB.out hw274_0), (swB HB.out hw274_1), (swB HB.out hw274_2), (swB HB.out hw274_3)⟩) (fun hHeld => ?_)
       clear hK K
       refine norm_ (a' := ?_) ?_ ?_
       rotate_left
       ·show Act.put _ (some 15) _ = _
        simp only [Act.put, sb0, sb1, sb2, i64_w, i32_w]
        rfl
       refine one_ (i := 13) (N := some 89) (bA 16 32767) rfl rfl (one_of HT_.out (by kernel_rfl)) (by decide) (fun K hK => ?_)
       refine goes_ Try.func101 (by kernel_rfl) rfl #[.agg #[.slice A0_0 l0_0.length c0_0, .slice A0_1 l0_1.length c0_1, .slice A0_2 l0_2.length c0_2, .slice A0_3 l0_3.length c0_3, .slice A0_4 l0_4.length c0_4, .slice A0_5 l0_5.length c0_5], .int .i64 a1, .int .i64 (rd t265 x14_4), .agg #[.int .i64 ((rd_T80 l4 (rd t265 x14_4)).f0), .int .i64 ((rd_T80 l4 (rd t265 x14_4)).f1), .int .i64 ((rd_T80 l4 (rd t265 x14_4)).f2), .bool ((rd_T80 l4 (rd t265 x14_4)).f3)]] (by rfl) rfl rfl (by (try simp only [List.map_toArray, List.map_cons, List.map_nil]); rfl) ?_
       with_reducible refine (spec_l07Import.calls kj30 _ _ l0_0 _ _ l0_1 _ _ l0_2 _ _ l0_3 _ _ l0_4 _ _ l0_5 a1 (rd t265 x14_4) ((rd_T80 l4 (rd t265 x14_4)).f0) ((rd_T80 l4 (rd t265 x14_4)).f1) ((rd_T80 l4 (rd t265 x14_4)).f2) ((rd_T80 l4 (rd t265 x14_4)).f3) t275 t276 t277 t278 _ ?side1 ?side2 ?side3 ?side4 ?side5 ?side6 ?side7 ?side8 ?side9 ?side10 ?side11 ?side12 A43.out).mono ?_
       (case side1 => exact (Kd.C_below HR0_0.out HB.out))
       (case side2 => exact HC0_0.out)
       (case side3 => exact (Kd.C_below HR0_1.out HB.out))
       (case side4 => exact HC0_1.out)
       (case side5 => exact (Kd.C_below HR0_2.out HB.out))
       (case side6 => exact HC0_2.out)
       (case side7 => exact (Kd.C_below HR0_3.out HB.out))
       (case side8 => exact HC0_3.out)
       (case side9 => exact (Kd.C_below HR0_4.out HB.out))
       (case side10 => exact HC0_4.out)
       (case side11 => exact (Kd.C_below HR0_5.out HB.out))
       (case side12 => exact HC0_5.out)
       rintro e w58 ⟨rfl, hb⟩
       have HS6_ := (hb.cell (World.block_lt_of_cell? _ _ (hHeld.2.2.2.2.2.2.1))).trans (hHeld.2.2.2.2.2.2.1)
       have HS7_ := (hb.cell (World.block_lt_of_cell? _ _ (hHeld.2.2.2.2.2.2.2.1))).trans (hHeld.2.2.2.2.2.2.2.1)
       refine ⟨_, rfl, ?_⟩
       replace HO_11 := aM (Kd.R_below HO_11.out hb)
       replace HO_13 := aM (Kd.R_below HO_13.out hb)
       replace BK251 := aK BK251 hb
       replace BK279 := aK BK279 hb
       replace HB := aB HB hb
       (try clear hb)
       refine hK.out _ _ (andc6 BK251.out ⟨HS6_, HS7_, (swB HB.out hw274_0), (swB HB.out hw274_1), (swB HB.out hw274_2), (swB HB.out hw274_3)⟩) (fun hHeld => ?_)
       clear hK K
       refine norm_ (a' := ?_) ?_ ?_
       rotate_left
       ·show Act.put _ (some 89) _ = _
        simp only [Act.put, sb0, sb1, sb2, i64_w, i32_w]
        rfl
       exact norm_ (by simp only [putAll, Act.put, List.setIfInBounds_toArray, List.set_cons_zero, List.set_cons_succ]) (hCont (gb279) _ ⟨hHeld, (by exact Kd.R_mono HO_11.out (fun _ hk => hk.2)), HO_13.out, BK251.out, BK279.out, GW279.out, GE279.out, NB251_279.out, NB279_251.out, HB.out⟩)
      rintro gb279 w59 ⟨hS_, h0_, h1_, h2_, h3_, h4_, h5_, h6_, h7_, h8_⟩
      have n0_ : Aside0 (Kd.R k80 80 w59 w.heap.size (fun k_ => k_ ≠ gb279) u11 x11_4) := ⟨h0_⟩
      have n1_ : Aside0 (Kd.R (Kd.int .i64) 3 w59 w.heap.size (fun _ => True) (.slice (some ad272) t265.length co32) t265) := ⟨h1_⟩
      have n2_ : Aside0 (w59.heap[gb251]? = some (.cells #[.slice A0_0 l0_0.length c0_0, .slice A0_1 l0_1.length c0_1, .slice A0_2 l0_2.length c0_2, .slice A0_3 l0_3.length c0_3, .slice A0_4 l0_4.length c0_4, .slice A0_5 l0_5.length c0_5] 38 (0, 0))) := ⟨h2_⟩
      have n3_ : Aside0 (w59.heap[gb279]? = some (.cells #[.int .i64 0, .int .i64 0, .int .i64 0, .bool false] 80 (0, 0))) := ⟨h3_⟩
      have n4_ : Aside0 (w.heap.size ≤ gb279) := ⟨h4_⟩
      have n5_ : Aside0 (w.heap.size ≤ gb279) := ⟨h5_⟩
      have n6_ : Aside0 (gb251 ≠ gb279) := ⟨h6_⟩
      have n7_ : Aside0 (gb279 ≠ gb251) := ⟨h7_⟩
      have n8_ : Aside0 (Below w.heap.size w w59) := ⟨h8_⟩
      clear HO_11 HO_13 BK251 HB h0_ h1_ h2_ h3_ h4_ h5_ h6_ h7_ h8_
      have HO_11 := n0_
      have HO_13 := n1_
      have BK251 := n2_
      have BK279 := n3_
      have GW279 := n4_
      have GE279 := n5_
      have NB251_279 := n6_
      have NB279_251 := n7_
      have HB := n8_
      clear n0_ n1_ n2_ n3_ n4_ n5_ n6_ n7_ n8_
      have hHeld : w59.cell? ⟨gb251, 0, none⟩ = some (.slice A0_0 l0_0.length c0_0) ∧ w59.cell? ⟨gb251, 1, none⟩ = some (.slice A0_1 l0_1.length c0_1) ∧ w59.cell? ⟨gb251, 2, none⟩ = some (.slice A0_2 l0_2.length c0_2) ∧ w59.cell? ⟨gb251, 3, none⟩ = some (.slice A0_3 l0_3.length c0_3) ∧ w59.cell? ⟨gb251, 4, none⟩ = some (.slice A0_4 l0_4.length c0_4) ∧ w59.cell? ⟨gb251, 5, none⟩ = some (.slice A0_5 l0_5.length c0_5) ∧ w59.cell? (ad272.add (x14_4).toNat) = some (.int .i64 (rd t265 x14_4)) ∧ w59.cell? (ad272.add (x14_4).toNat) = some (.int .i64 (rd t265 x14_4)) ∧ w59.cell? (ad274.add (((rd t265 x14_4)).toNat * 4)) = some (.int .i64 ((rd_T80 l4 (rd t265 x14_4)).f0)) ∧ w59.cell? ⟨(ad274.add (((rd t265 x14_4)).toNat * 4)).block, (ad274.add (((rd t265 x14_4)).toNat * 4)).off + 1, none⟩ = some (.int .i64 ((rd_T80 l4 (rd t265 x14_4)).f1)) ∧ w59.cell? ⟨(ad274.add (((rd t265 x14_4)).toNat * 4)).block, (ad274.add (((rd t265 x14_4)).toNat * 4)).off + 2, none⟩ = some (.int .i64 ((rd_T80 l4 (rd t265 x14_4)).f2)) ∧ w59.cell? ⟨(ad274.add (((rd t265 x14_4)).toNat * 4)).block, (ad274.add (((rd t265 x14_4)).toNat * 4)).off + 3, none⟩ = some (.bool ((rd_T80 l4 (rd t265 x14_4)).f3)) := hS_
      refine norm_ (a' := ?_) ?_ ?_
      rotate_left
      ·simp only [putAll, Act.put, List.setIfInBounds_toArray, List.set_cons_zero, List.set_cons_succ]
       rfl
      refine one_ (i := 15) (N := none) (bA 16 65535) rfl rfl (one_of HT_.out (by kernel_rfl)) (by decide) (fun K hK => ?_)
      have hs60 : w59.cell? ⟨gb279, 0, none⟩ = some (.int .i64 0) := (blk_cell BK279.out 0).trans rfl
      have hfs60 := blk_frozen BK279.out 0
      have hns60_0 := NB251_279.out
      have hms60_0 := NB279_251.out
      have hs61 : w59.cell? ⟨gb279, 1, none⟩ = some (.int .i64 0) := (blk_cell BK279.out 1).trans rfl
      have hfs61 := blk_frozen BK279.out 1
      have hns61_0 := NB251_279.out
      have hms61_0 := NB279_251.out
      have hs62 : w59.cell? ⟨gb279, 2, none⟩ = some (.int .i64 0) := (blk_cell BK279.out 2).trans rfl
      have hfs62 := blk_frozen BK279.out 2
      have hns62_0 := NB251_279.out
      have hms62_0 := NB279_251.out
      have hs63 : w59.cell? ⟨gb279, 3, none⟩ = some (.bool false) := (blk_cell BK279.out 3).trans rfl
      have hfs63 := blk_frozen BK279.out 3
      have hns63_0 := NB251_279.out
      have hms63_0 := NB279_251.out
      refine skip_ (w1 := ?_) (by rfl) rfl ?_ ?_
      rotate_left
      ·go_simp
       rfl
      refine hK.out _ _ ⟨((cell_far (p := ⟨gb279, _, none⟩) NB251_279.out _).trans (((cell_far (p := ⟨gb279, _, none⟩) NB251_279.out _).trans (((cell_far (p := ⟨gb279, _, none⟩) NB251_279.out _).trans (((cell_far (p := ⟨gb279, _, none⟩) NB251_279.out _).trans (hHeld.1)))))))), ((cell_far (p := ⟨gb279, _, none⟩) NB251_279.out _).trans (((cell_far (p := ⟨gb279, _, none⟩) NB251_279.out _).trans (((cell_far (p := ⟨gb279, _, none⟩) NB251_279.out _).trans (((cell_far (p := ⟨gb279, _, none⟩) NB251_279.out _).trans (hHeld.2.1)))))))), ((cell_far (p := ⟨gb279, _, none⟩) NB251_279.out _).trans (((cell_far (p := ⟨gb279, _, none⟩) NB251_279.out _).trans (((cell_far (p := ⟨gb279, _, none⟩) NB251_279.out _).trans (((cell_far (p := ⟨gb279, _, none⟩) NB251_279.out _).trans (hHeld.2.2.1)))))))), ((cell_far (p := ⟨gb279, _, none⟩) NB251_279.out _).trans (((cell_far (p := ⟨gb279, _, none⟩) NB251_279.out _).trans (((cell_far (p := ⟨gb279, _, none⟩) NB251_279.out _).trans (((cell_far (p := ⟨gb279, _, none⟩) NB251_279.out _).trans (hHeld.2.2.2.1)))))))), ((cell_far (p := ⟨gb279, _, none⟩) NB251_279.out _).trans (((cell_far (p := ⟨gb279, _, none⟩) NB251_279.out _).trans (((cell_far (p := ⟨gb279, _, none⟩) NB251_279.out _).trans (((cell_far (p := ⟨gb279, _, none⟩) NB251_279.out _).trans (hHeld.2.2.2.2.1)))))))), ((cell_far (p := ⟨gb279, _, none⟩) NB251_279.out _).trans (((cell_far (p := ⟨gb279, _, none⟩) NB251_279.out _).trans (((cell_far (p := ⟨gb279, _, none⟩) NB251_279.out _).trans (((cell_far (p := ⟨gb279, _, none⟩) NB251_279.out _).trans (hHeld.2.2.2.2.2.1)))))))), ((cell_far (p := ⟨gb279, _, none⟩) (by (rw [add_block]; exact Kd.own_blk (Kd.R_ne HO_13.out BK279.out (by decide)))) _).trans (((cell_far (p := ⟨gb279, _, none⟩) (by (rw [add_block]; exact Kd.own_blk (Kd.R_ne HO_13.out BK279.out (by decide)))) _).trans (((cell_far (p := ⟨gb279, _, none⟩) (by (rw [add_block]; exact Kd.own_blk (Kd.R_ne HO_13.out BK279.out (by decide)))) _).trans (((cell_far (p := ⟨gb279, _, none⟩) (by (rw [add_block]; exact Kd.own_blk (Kd.R_ne HO_13.out BK279.out (by decide)))) _).trans (hHeld.2.2.2.2.2.2.1)))))))), ((cell_far (p := ⟨gb279, _, none⟩) (by (rw [add_block]; exact Kd.own_blk (Kd.R_ne HO_13.out BK279.out (by decide)))) _).trans (((cell_far (p := ⟨gb279, _, none⟩) (by (rw [add_block]; exact Kd.own_blk (Kd.R_ne HO_13.out BK279.out (by decide)))) _).trans (((cell_far (p := ⟨gb279, _, none⟩) (by (rw [add_block]; exact Kd.own_blk (Kd.R_ne HO_13.out BK279.out (by decide)))) _).trans (((cell_far (p := ⟨gb279, _, none⟩) (by (rw [add_block]; exact Kd.own_blk (Kd.R_ne HO_13.out BK279.out (by decide)))) _).trans (hHeld.2.2.2.2.2.2.2.1)))))))), ((cell_far (p := ⟨gb279, _, none⟩) (by exact Nat.ne_of_lt (Nat.lt_of_lt_of_le (by have := World.block_lt_of_cell? _ _ hw274_0; exact this) GW279.out)) _).trans (((cell_far (p := ⟨gb279, _, none⟩) (by exact Nat.ne_of_lt (Nat.lt_of_lt_of_le (by have := World.block_lt_of_cell? _ _ hw274_0; exact this) GW279.out)) _).trans (((cell_far (p := ⟨gb279, _, none⟩) (by exact Nat.ne_of_lt (Nat.lt_of_lt_of_le (by have := World.block_lt_of_cell? _ _ hw274_0; exact this) GW279.out)) _).trans (((cell_far (p := ⟨gb279, _, none⟩) (by exact Nat.ne_of_lt (Nat.lt_of_lt_of_le (by have := World.block_lt_of_cell? _ _ hw274_0; exact this) GW279.out)) _).trans (hHeld.2.2.2.2.2.2.2.2.1)))))))), ((cell_far (p := ⟨gb279, _, none⟩) (by exact Nat.ne_of_lt (Nat.lt_of_lt_of_le (by have := World.block_lt_of_cell? _ _ hw274_1; exact this) GW279.out)) _).trans (((cell_far (p := ⟨gb279, _, none⟩) (by exact Nat.ne_of_lt (Nat.lt_of_lt_of_le (by have := World.block_lt_of_cell? _ _ hw274_1; exact this) GW279.out)) _).trans (((cell_far (p := ⟨gb279, _, none⟩) (by exact Nat.ne_of_lt (Nat.lt_of_lt_of_le (by have := World.block_lt_of_cell? _ _ hw274_1; exact this) GW279.out)) _).trans (((cell_far (p := ⟨gb279, _, none⟩) (by exact Nat.ne_of_lt (Nat.lt_of_lt_of_le (by have := World.block_lt_of_cell? _ _ hw274_1; exact this) GW279.out)) _).trans (hHeld.2.2.2.2.2.2.2.2.2.1)))))))), ((cell_far (p := ⟨gb279, _, none⟩) (by exact Nat.ne_of_lt (Nat.lt_of_lt_of_le (by have := World.block_lt_of_cell? _ _ hw274_2; exact this) GW279.out)) _).trans (((cell_far (p := ⟨gb279, _, none⟩) (by exact Nat.ne_of_lt (Nat.lt_of_lt_of_le (by have := World.block_lt_of_cell? _ _ hw274_2; exact this) GW279.out)) _).trans (((cell_far (p := ⟨gb279, _, none⟩) (by exact Nat.ne_of_lt (Nat.lt_of_lt_of_le (by have := World.block_lt_of_cell? _ _ hw274_2; exact this) GW279.out)) _).trans (((cell_far (p := ⟨gb279, _, none⟩) (by exact Nat.ne_of_lt (Nat.lt_of_lt_of_le (by have := World.block_lt_of_cell? _ _ hw274_2; exact this) GW279.out)) _).trans (hHeld.2.2.2.2.2.2.2.2.2.2.1)))))))), ((cell_far (p := ⟨gb279, _, none⟩) (by exact Nat.ne_of_lt (Nat.lt_of_lt_of_le (by have := World.block_lt_of_cell? _ _ hw274_3; exact this) GW279.out)) _).trans (((cell_far (p := ⟨gb279, _, none⟩) (by exact Nat.ne_of_lt (Nat.lt_of_lt_of_le (by have := World.block_lt_of_cell? _ _ hw274_3; exact this) GW279.out)) _).trans (((cell_far (p := ⟨gb279, _, none⟩) (by exact Nat.ne_of_lt (Nat.lt_of_lt_of_le (by have := World.block_lt_of_cell? _ _ hw274_3; exact this) GW279.out)) _).trans (((cell_far (p := ⟨gb279, _, none⟩) (by exact Nat.ne_of_lt (Nat.lt_of_lt_of_le (by have := World.block_lt_of_cell? _ _ hw274_3; exact this) GW279.out)) _).trans (hHeld.2.2.2.2.2.2.2.2.2.2.2))))))))⟩ (fun hHeld => ?_)
      clear hK K
      refine done_ (done_of HT_.out (by kernel_rfl)) ?_
      have hnb64 := NB279_251.out
      have hnc64 := NB251_279.out
      obtain ⟨hcz65_0, hcz65_1, hcz65_2, hcz65_3⟩ := swc4 BK279.out
      obtain ⟨hfz65_0, hfz65_1, hfz65_2, hfz65_3⟩ := swf4 BK279.out
      try go_wp2_with (((with_reducible refine gate_builtin (b := .append) (xs := #[.tmp 93, .tmp 95]) rfl ?_); at_builtin; refine Kd.R_append k80 (w0 := w) w.heap.size rfl (.tmp 93) (.tmp 95) 31 80 (.agg #[(.int .i64 0), (.int .i64 0), (.int .i64 0), (.bool false)]) 32 rfl Try.underlying31 info80 rfl (by decide) (by omega) u11 x11_4 (⟨t275, t276, t277, t278⟩ : S80) [.int .i64 t275, .int .i64 t276, .int .i64 t277, .bool t278] (fun k_ => k_ ≠ gb279) (fun _ => False) rfl (by (go_simp; done)) ?aP (fun _ hk => hk.elim) ?aF ?aO ?aB ?aS ?aL ?_; (case aP => exact k80_mkM _ _ _ (⟨t275, t276, t277, t278⟩ : S80)); (case aB => exact (by repeat ((with_reducible first | exact HB.out | refine below_set ?_ GE279.out)))); (case aF => exact (fun k_ hk => Kd.freshB (g := gb279) (o := .cells #[.int .i64 t275, .int .i64 t276, .int .i64 t277, .bool t278] 80 (0, 0)) (by refine blk_put (cs := #[.int .i64 t275, .int .i64 t276, .int .i64 t277, .bool false]) ?_ 3 _ rfl; refine blk_put (cs := #[.int .i64 t275, .int .i64 t276, .int .i64 0, .bool false]) ?_ 2 _ rfl; refine blk_put (cs := #[.int .i64 t275, .int .i64 0, .int .i64 0, .bool false]) ?_ 1 _ rfl; refine blk_put (cs := #[.int .i64 0, .int .i64 0, .int .i64 0, .bool false]) ?_ 0 _ rfl; exact BK279.out) k_ hk)); (case aO => exact (by exact Kd.R_mono (Kd.R_far (p := ⟨gb279, 3, none⟩) (Kd.R_far (p := ⟨gb279, 2, none⟩) (Kd.R_far (p := ⟨gb279, 1, none⟩) (Kd.R_far (p := ⟨gb279, 0, none⟩) (Kd.R_mono HO_11.out (fun k_ hk => (⟨hk, hk⟩ : _ ∧ k_ ≠ gb279))) (fun _ hk => hk.2) (.int .i64 t275)) (fun _ hk => hk.2) (.int .i64 t276)) (fun _ hk => hk.2) (.int .i64 t277)) (fun _ hk => hk.2) (.bool t278)) (fun _ hk => hk.1))); (case aS => exact (below_size (by repeat ((with_reducible first | exact HB.out | refine below_set ?_ GE279.out))))); (case aL => have := LMc55.out; omega); intro v281 w66 ho hb hg hat; rw [← Ny280.out] at ho; replace HO_13 := aM (Kd.R_over' (by exact (Kd.R_mono (Kd.R_far (p := ⟨gb279, 3, none⟩) (Kd.R_far (p := ⟨gb279, 2, none⟩) (Kd.R_far (p := ⟨gb279, 1, none⟩) (Kd.R_far (p := ⟨gb279, 0, none⟩) (Kd.R_types HO_13.out BK279.out (by decide)) (fun _ hk => hk.2) (.int .i64 t275)) (fun _ hk => hk.2) (.int .i64 t276)) (fun _ hk => hk.2) (.int .i64 t277)) (fun _ hk => hk.2) (.bool t278)) (fun _ h_ => h_.1))) (Kd.R_typed (by exact (Kd.R_mono (Kd.R_far (p := ⟨gb279, 3, none⟩) (Kd.R_far (p := ⟨gb279, 2, none⟩) (Kd.R_far (p := ⟨gb279, 1, none⟩) (Kd.R_far (p := ⟨gb279, 0, none⟩) (Kd.R_mono HO_11.out (fun k_ hk => (⟨hk, hk⟩ : _ ∧ k_ ≠ gb279))) (fun _ hk => hk.2) (.int .i64 t275)) (fun _ hk => hk.2) (.int .i64 t276)) (fun _ hk => hk.2) (.int .i64 t277)) (fun _ hk => hk.2) (.bool t278)) (fun _ h_ => h_.1)))) (by decide) hg); replace BK251 := aM (blk_grown (g := gb251) (o := .cells #[.slice A0_0 l0_0.length c0_0, .slice A0_1 l0_1.length c0_1, .slice A0_2 l0_2.length c0_2, .slice A0_3 l0_3.length c0_3, .slice A0_4 l0_4.length c0_4, .slice A0_5 l0_5.length c0_5] 38 (0, 0)) (by refine blk_far ?_ NB251_279.out _; refine blk_far ?_ NB251_279.out _; refine blk_far ?_ NB251_279.out _; refine blk_far ?_ NB251_279.out _; exact BK251.out) hg (Kd.R_ne HO_11.out BK251.out (by decide))); replace BK279 := aM (blk_grown (g := gb279) (o := .cells #[.int .i64 t275, .int .i64 t276, .int .i64 t277, .bool t278] 80 (0, 0)) (by refine blk_put (cs := #[.int .i64 t275, .int .i64 t276, .int .i64 t277, .bool false]) ?_ 3 _ rfl; refine blk_put (cs := #[.int .i64 t275, .int .i64 t276, .int .i64 0, .bool false]) ?_ 2 _ rfl; refine blk_put (cs := #[.int .i64 t275, .int .i64 0, .int .i64 0, .bool false]) ?_ 1 _ rfl; refine blk_put (cs := #[.int .i64 0, .int .i64 0, .int .i64 0, .bool false]) ?_ 0 _ rfl; exact BK279.out) hg (Kd.R_away HO_11.out (fun _ hk => hk))); replace HB := aM (hb); have HO282 := aM (ho); clear HO_11; clear ho hb hg hat))
      go_roundg kj30
      case measure => have := HJ6.out; have := HJ15.out; have := HJ20.out; have := HK4.out; have := HJ30.out; omega
      case rel => exact ⟨(y280), (wrap64 (x14_4 + 1)), (by rfl), H', ⟨by have := HJ6.out; have := HJ15.out; have := HJ20.out; have := HK4.out; have := HJ30.out; omega⟩, ⟨by exact Kd.R_mono HO282.out (fun _ hk => trivial)⟩, ⟨by exact HO_13.out⟩, ⟨by exact BK251.out⟩, ⟨by repeat ((with_reducible exact HB.out))⟩⟩
end Go.Proofs.Ytgibacfgjmdjdaa.PFnExactIsStable
end
section
namespace Go.Proofs.Ytgibacfgjmdjdaa.PFnExactIsStable
open Go.RowKit Go.Proofs.YtgibacfgjmdjdaaW.PrintWords Go.Proofs.YtgibacfgjmdjdaaW.PrintLast Go.Proofs.YtgibacfgjmdjdaaW.PrintMore
attribute [local go_sem] max2_int min2_int max_two min_two max_three min_three max_four min_four   -- for this text's walks alone
set_option linter.unusedVariables false
set_option maxHeartbeats 8000000
set_option maxRecDepth 100000
set_option linter.unusedSimpArgs false
end Go.Proofs.Ytgibacfgjmdjdaa.PFnExactIsStable
end
section
namespace Go.Proofs.Ytgibacfgjmdjdaa.PFnExactIsStable
open Go.RowKit Go.Proofs.YtgibacfgjmdjdaaW.PrintWords Go.Proofs.YtgibacfgjmdjdaaW.PrintLast Go.Proofs.YtgibacfgjmdjdaaW.PrintMore
attribute [local go_sem] max2_int min2_int max_two min_two max_three min_three max_four min_four   -- for this text's walks alone
set_option linter.unusedVariables false
set_option maxHeartbeats 8000000
set_option maxRecDepth 100000
set_option linter.unusedSimpArgs false
attribute [local go_sem high] eqA80
def anyI (p : Nat → Bool) : Nat → Bool
 | 0 => false
 | n + 1 => anyI p n || p n
theorem anyI_none {p : Nat → Bool} : ∀ {n : Nat}, (∀ j, j < n → p j = false) → anyI p n = false
 | 0, _ => rfl
 | n + 1, h => by rw [anyI, anyI_none (fun j hj => h j (by omega)), h n (by omega)]; rfl
theorem anyI_some {p : Nat → Bool} : ∀ {n k : Nat}, k < n → p k = true → anyI p n = true
 | 0, _, h, _ => by omega
 | n + 1, k, h, hp => by
  rw [anyI]
  by_cases e : k = n
  ·subst e; rw [hp]; simp
  rw [anyI_some (show k < n by omega) hp]; simp
theorem anyI_list {α : Type} (q : α → Bool) (d : α) (p : Nat → Bool) : ∀ (l : List α), (∀ i, i < l.length → p i = q (l.getD i d)) → anyI p l.length = l.any q := by
 intro l h
 cases hq : l.any q with
 | true =>
  obtain ⟨x, hx, hqx⟩ := List.any_eq_true.1 hq
  obtain ⟨i, hi, rfl⟩ := List.mem_iff_getElem.1 hx
  exact anyI_some hi (by rw [h i hi]; simpa [List.getD, hi] using hqx)
 | false =>
  refine anyI_none (fun j hj => ?_)
  rw [h j hj]
  have := List.any_eq_false.1 hq (l.getD j d) (by simp [List.getD, hj])
  simpa using this
set_option maxHeartbeats 4000000 in
theorem idxInt (p : Nat → Bool) (V : Nat → Value) (g : Nat) (lb : Array Value) (eg : ∀ args w, (callFunc g args).run Try.prog w = .ok (.enter g args) w) (A : Option Addr) (n c : Nat) (w : World) (hn : n ≤ 9223372036854775807)
  (hc : 0 < n → ∃ ad, A = some ad ∧ ∀ i, i < n → w.cell? (ad.add i) = some (V i))
  (hp : ∀ i, i < n → ∀ W, Below w.heap.size w W → Calls Try.prog g (#[V i] ++ lb) W fun e W' => e = .returned (.bool (p i)) ∧ Below W.heap.size W W') :
  Calls Try.prog 107 #[.slice A n c, .func (.func g) #[] lb] w fun e w' => (∃ r : Int, e = .returned (.int .i64 r) ∧ decide (0 ≤ r) = anyI p n) ∧ Below w.heap.size w w' := by
 have HP := aM hp
 have HC := aM hc
 clear hp hc
 go_enter Try.func107, Try.ntmps107
 go_wp2
 go_loopg [5, 8] n (fun gg _ s8 wr => ∃ kk : Nat, kk ≤ n ∧ n - kk ≤ gg ∧ s8 = .int .i64 kk ∧ Aside0 (Below w.heap.size w wr) ∧ Aside0 (∀ j, j < kk → p j = false))
 case atStart => exact ⟨0, Nat.zero_le _, by omega, rfl, ⟨Below.refl _ _⟩, ⟨fun j hj => absurd hj (Nat.not_lt_zero _)⟩⟩
 obtain ⟨kk, hkk, hg, rfl, HB, HN⟩ := hrel
 by_cases hlt : kk < n
 rotate_left
 ·have hltz : ¬ (kk : Int) < (n : Int) := by omega
  have : kk = n := by omega
  subst this
  go_wp2
  go_ret
  refine ⟨⟨-1, rfl, ?_⟩, HB.out⟩
  rw [anyI_none HN.out]
  rfl
 have hltz : (kk : Int) < (n : Int) := by omega
 obtain ⟨ad, ea, hcell0⟩ := HC.out (by omega)
 have hcell := (HB.out.cell (World.block_lt_of_cell? w _ (hcell0 kk hlt))).trans (hcell0 kk hlt)
 clear hcell0
 cases ea
 have hcall := HP.out kk hlt _ HB.out
 cases hq : p kk with
 | true =>
  rw [hq] at hcall
  have HQ := aM hq
  clear hq
  go_wp2_with (go_at_fn g; refine hcall.mono ?_; rintro e w' ⟨rfl, hb⟩)
  go_ret
  refine ⟨⟨kk, rfl, ?_⟩, HB.out.trans (hb.mono HB.out.size)⟩
  rw [anyI_some hlt HQ.out, decide_eq_true (by omega)]
 | false =>
  rw [hq] at hcall
  have HQ := aM hq
  clear hq
  go_wp2_with (go_at_fn g; refine hcall.mono ?_; rintro e w' ⟨rfl, hb⟩)
  go_roundg (n - (kk + 1))
  case measure => omega
  refine ⟨kk + 1, by omega, by omega, by go_num, ⟨HB.out.trans (hb.mono HB.out.size)⟩, ⟨fun j hj => ?_⟩⟩
  by_cases e : j = kk
  ·subst e
   exact HQ.out
  exact HN.out j (by omega)
set_option maxHeartbeats 4000000 in
theorem anyInt (p : Nat → Bool) (V : Nat → Value) (g : Nat) (lb : Array Value) (eg : ∀ args w, (callFunc g args).run Try.prog w = .ok (.enter g args) w) (A : Option Addr) (n c : Nat) (w : World) (hn : n ≤ 9223372036854775807)
  (hc : 0 < n → ∃ ad, A = some ad ∧ ∀ i, i < n → w.cell? (ad.add i) = some (V i))
  (hp : ∀ i, i < n → ∀ W, Below w.heap.size w W → Calls Try.prog g (#[V i] ++ lb) W fun e W' => e = .returned (.bool (p i)) ∧ Below W.heap.size W W') :
  Calls Try.prog 78 #[.slice A n c, .func (.func g) #[] lb] w fun e w' => e = .returned (.bool (anyI p n)) ∧ Below w.heap.size w w' := by
 have hcall := idxInt p V g lb eg A n c w hn hc hp
 clear hp hc
 go_enter Try.func78, Try.ntmps78
 go_wp2_with (go_at_call 107; refine hcall.mono ?_; rintro e w' ⟨⟨r, rfl, hr⟩, hb⟩)
 go_ret
 exact ⟨by (rw [← hr]; rfl), hb⟩
theorem anyIntL (q : Int → Bool) (g : Nat) (lb : Array Value) (eg : ∀ args w, (callFunc g args).run Try.prog w = .ok (.enter g args) w) (A : Option Addr) (l : List Int) (c : Nat) (w : World) (hr : Kd.C (Kd.int .i64) w A l.length l)
  (hp : ∀ x W, Below w.heap.size w W → Calls Try.prog g (#[.int .i64 x] ++ lb) W fun e W' => e = .returned (.bool (q x)) ∧ Below W.heap.size W W') :
  Calls Try.prog 78 #[.slice A l.length c, .func (.func g) #[] lb] w fun e w' => e = .returned (.bool (l.any q)) ∧ Below w.heap.size w w' := by
 have h := anyInt (fun i => q (l.getD i 0)) (fun i => .int .i64 (l.getD i 0)) g lb eg A l.length c w hr.2.1
  (fun hn => by
   obtain ⟨ad, ea, _⟩ := hr.2.2 hn
   refine ⟨ad, ea, fun i hi => ?_⟩
   obtain ⟨ad', ea', hx⟩ := Kd.at_int hr (i : Int) (by omega) (by omega)
   cases ea
   cases ea'
   exact hx)
  (fun i hi W hb => hp _ W hb)
 rwa [anyI_list q 0 _ l (fun i _ => rfl)] at h
end Go.Proofs.Ytgibacfgjmdjdaa.PFnExactIsStable
end
section
namespace Go.Proofs.Ytgibacfgjmdjdaa.PFnExactIsStable
open Go.RowKit Go.Proofs.YtgibacfgjmdjdaaW.PrintWords Go.Proofs.YtgibacfgjmdjdaaW.PrintLast Go.Proofs.YtgibacfgjmdjdaaW.PrintMore
attribute [local go_sem] max2_int min2_int max_two min_two max_three min_three max_four min_four   -- for this text's walks alone
set_option linter.unusedVariables false
set_option maxHeartbeats 8000000
set_option maxRecDepth 100000
set_option linter.unusedSimpArgs false
attribute [local go_sem high] eqA80
theorem fn106 (x : Int) (W : World) : Calls Try.prog 106 #[.int .i64 x] W fun e W' => e = .returned (.bool (!(decide (0 ≤ x) && decide (x ≤ 2)))) ∧ Below W.heap.size W W' := by
 have hin : impl_within.f x 0 2 = some (decide (0 ≤ x) && decide (x ≤ 2)) := by
  unfold impl_within.f
  by_cases h : x ≥ 0
  ·rw [if_pos h, decide_eq_true h, Bool.true_and]
  rw [if_neg h, decide_eq_false h, Bool.false_and]
 have hcall := fun V => impl_within.calls x 0 2 _ V hin
 generalize (decide (0 ≤ x) && decide (x ≤ 2)) = b at hcall ⊢
 go_enter Try.func106, Try.ntmps106
 go_wp2_with (go_at_call 80; refine (hcall _).mono ?_; rintro e w' ⟨rfl, hd⟩)
 go_ret
 exact ⟨rfl, hd.below⟩
def aroundB (ext links : Nat) (env : List Int) (down : Nat) : Bool := decide (env.length = ext) && (decide (down = links) && !(env.any fun x => !(decide (0 ≤ x) && decide (x ≤ 2))))
def impl_isAround.f (l0_0 : List ByteArray) (l0_1 : List S92) (l0_2 : List Int) (l0_3 : List Int) (l0_4 : List S95) (l0_5 : List S97) (l1 : List Int) (l2 : List Bool) : Option Bool := some (aroundB l0_3.length l0_1.length l1 l2.length)
set_option maxHeartbeats 4000000 in
set_option maxRecDepth 100000 in
theorem impl_isAround.calls (A0_0 : Option Addr) (c0_0 : Nat) (l0_0 : List ByteArray) (A0_1 : Option Addr) (c0_1 : Nat) (l0_1 : List S92) (A0_2 : Option Addr) (c0_2 : Nat) (l0_2 : List Int) (A0_3 : Option Addr) (c0_3 : Nat) (l0_3 : List Int) (A0_4 : Option Addr) (c0_4 : Nat) (l0_4 : List S95) (A0_5 : Option Addr) (c0_5 : Nat) (l0_5 : List S97) (A1 : Option Addr) (c1 : Nat) (l1 : List Int) (A2 : Option Addr) (c2 : Nat) (l2 : List Bool) (r : Bool) (w : World) (hr0_0 : Kd.C Kd.string w A0_0 l0_0.length l0_0) (hc0_0 : l0_0.length ≤ c0_0) (hr0_1 : Kd.C k92 w A0_1 l0_1.length l0_1) (hc0_1 : l0_1.length ≤ c0_1) (hr0_2 : Kd.C (Kd.int .i64) w A0_2 l0_2.length l0_2) (hc0_2 : l0_2.length ≤ c0_2) (hr0_3 : Kd.C (Kd.int .i64) w A0_3 l0_3.length l0_3) (hc0_3 : l0_3.length ≤ c0_3) (hr0_4 : Kd.C k95 w A0_4 l0_4.length l0_4) (hc0_4 : l0_4.length ≤ c0_4) (hr0_5 : Kd.C k97 w A0_5 l0_5.length l0_5) (hc0_5 : l0_5.length ≤ c0_5) (hr1 : Kd.C (Kd.int .i64) w A1 l1.length l1) (hc1 : l1.length ≤ c1) (hr2 : Kd.C Kd.bool w A2 l2.length l2) (hc2 : l2.length ≤ c2) (h : impl_isAround.f l0_0 l0_1 l0_2 l0_3 l0_4 l0_5 l1 l2 = some r) :
  Calls Try.prog 76 #[.agg #[.slice A0_0 l0_0.length c0_0, .slice A0_1 l0_1.length c0_1, .slice A0_2 l0_2.length c0_2, .slice A0_3 l0_3.length c0_3, .slice A0_4 l0_4.length c0_4, .slice A0_5 l0_5.length c0_5], .slice A1 l1.length c1, .slice A2 l2.length c2] w fun e w' => e = .returned (.bool r) ∧ Below w.heap.size w w' := by
 obtain rfl : aroundB l0_3.length l0_1.length l1 l2.length = r := Option.some.inj h
 clear h
 unfold aroundB
 have hu38 := Try.underlying38
 have HC : Aside0 (∀ V : World, Below w.heap.size w V → Calls Try.prog 78 #[.slice A1 l1.length c1, .func (.func 106) #[] #[]] V fun e w' => e = .returned (.bool (l1.any fun x => !(decide (0 ≤ x) && decide (x ≤ 2)))) ∧ Below V.heap.size V w') := ⟨fun V hV => anyIntL (fun x => !(decide (0 ≤ x) && decide (x ≤ 2))) 106 #[] (enters_of Try.func106 (by kernel_rfl) rfl) A1 l1 c1 V (Kd.C_below hr1 hV) (fun x W _ => fn106 x W)⟩
 clear hr1 hc1 hr2 hc2 hr0_0 hc0_0 hr0_1 hc0_1 hr0_2 hc0_2 hr0_3 hc0_3 hr0_4 hc0_4 hr0_5 hc0_5
 generalize (l1.any fun x => !(decide (0 ≤ x) && decide (x ≤ 2))) = b at HC ⊢
 have HB := aM (Below.refl w.heap.size w)
 by_cases hA : l1.length = l0_3.length
 rotate_left
 ·rw [decide_eq_false hA, Bool.false_and]
  have hA1 : ((l1.length : Int) == (l0_3.length : Int)) = false := beq_eq_false_iff_ne.2 (fun h => hA (Int.ofNat.inj h))
  have hA2 : ¬ (l1.length : Int) = (l0_3.length : Int) := fun h => hA (Int.ofNat.inj h)
  clear HC
  go_enter Try.func76, Try.ntmps76
  go_wp2_with (((with_reducible refine gate_dst (N := 3) rfl ?_); refine box_event rfl (N := 3) rfl (cs := #[.slice A0_0 l0_0.length c0_0, .slice A0_1 l0_1.length c0_1, .slice A0_2 l0_2.length c0_2, .slice A0_3 l0_3.length c0_3, .slice A0_4 l0_4.length c0_4, .slice A0_5 l0_5.length c0_5]) (t := 38) (by go_simp; done) ?_; intro gN hg_ wN hbox hbb; have GEN := aM (show w.heap.size ≤ gN by rw [hg_]; exact HB.out.size); replace HB := aM (HB.out.trans (hbb.mono HB.out.size)); clear hbb hg_; have BN := aM hbox; clear hbox; obtain ⟨cN0, cN1, cN2, cN3, cN4, cN5⟩ := box6 BN.out))
  go_ret
  exact ⟨rfl, HB.out⟩
 rw [decide_eq_true hA, Bool.true_and]
 rw [hA] at HC ⊢
 clear hA
 by_cases hB : l2.length = l0_1.length
 rotate_left
 ·rw [decide_eq_false hB, Bool.false_and]
  have hB1 : ((l2.length : Int) == (l0_1.length : Int)) = false := beq_eq_false_iff_ne.2 (fun h => hB (Int.ofNat.inj h))
  have hB2 : ¬ (l2.length : Int) = (l0_1.length : Int) := fun h => hB (Int.ofNat.inj h)
  clear HC
  go_enter Try.func76, Try.ntmps76
  go_wp2_with (((with_reducible refine gate_dst (N := 3) rfl ?_); refine box_event rfl (N := 3) rfl (cs := #[.slice A0_0 l0_0.length c0_0, .slice A0_1 l0_1.length c0_1, .slice A0_2 l0_2.length c0_2, .slice A0_3 l0_3.length c0_3, .slice A0_4 l0_4.length c0_4, .slice A0_5 l0_5.length c0_5]) (t := 38) (by go_simp; done) ?_; intro gN hg_ wN hbox hbb; have GEN := aM (show w.heap.size ≤ gN by rw [hg_]; exact HB.out.size); replace HB := aM (HB.out.trans (hbb.mono HB.out.size)); clear hbb hg_; have BN := aM hbox; clear hbox; obtain ⟨cN0, cN1, cN2, cN3, cN4, cN5⟩ := box6 BN.out))
  go_ret
  exact ⟨rfl, HB.out⟩
 rw [decide_eq_true hB, Bool.true_and]
 rw [hB]
 clear hB
 go_enter Try.func76, Try.ntmps76
 go_wp2_with (first | ((with_reducible refine gate_dst (N := 3) rfl ?_); refine box_event rfl (N := 3) rfl (cs := #[.slice A0_0 l0_0.length c0_0, .slice A0_1 l0_1.length c0_1, .slice A0_2 l0_2.length c0_2, .slice A0_3 l0_3.length c0_3, .slice A0_4 l0_4.length c0_4, .slice A0_5 l0_5.length c0_5]) (t := 38) (by go_simp; done) ?_; intro gN hg_ wN hbox hbb; have GEN := aM (show w.heap.size ≤ gN by rw [hg_]; exact HB.out.size); replace HB := aM (HB.out.trans (hbb.mono HB.out.size)); clear hbb hg_; have BN := aM hbox; clear hbox; obtain ⟨cN0, cN1, cN2, cN3, cN4, cN5⟩ := box6 BN.out) | (go_at_call 78; (with_reducible refine (HC.out _ HB.out).mono ?_); rintro e w5 ⟨rfl, hb⟩; clear cN0 cN1 cN2 cN3 cN4 cN5; replace HB := aB HB hb; replace BN := aK BN hb; clear hb; obtain ⟨cN0, cN1, cN2, cN3, cN4, cN5⟩ := box6 BN.out))
 go_ret
 exact ⟨rfl, HB.out⟩
def routesI (all : List S92) : List S80 → Nat → Option Bool
 | [], _ => some true
 | x :: r, i => if ((((((decide (x.f0 ≥ 0)) && (decide (linkI all (i : Int) x.f0 < 0))) || (decide (x.f0 < (-3)))) || (!(inB x.f1 0 1000))) || (!(inB x.f2 0 10000))) || ((x.f0 == (-3)) && (!((x.f0 == (-3)) && ((x.f1 == 0) && ((x.f2 == 0) && (x.f3 == false))))))) = true then some false else routesI all r (i + 1)
def impl_areRoutes.f (l0_0 : List ByteArray) (l0_1 : List S92) (l0_2 : List Int) (l0_3 : List Int) (l0_4 : List S95) (l0_5 : List S97) (l1 : List S80) : Option Bool := if l1.length = l0_0.length then routesI l0_1 l1 0 else some false
theorem impl_areRoutes.calls (A0_0 : Option Addr) (c0_0 : Nat) (l0_0 : List ByteArray) (A0_1 : Option Addr) (c0_1 : Nat) (l0_1 : List S92) (A0_2 : Option Addr) (c0_2 : Nat) (l0_2 : List Int) (A0_3 : Option Addr) (c0_3 : Nat) (l0_3 : List Int) (A0_4 : Option Addr) (c0_4 : Nat) (l0_4 : List S95) (A0_5 : Option Addr) (c0_5 : Nat) (l0_5 : List S97) (A1 : Option Addr) (c1 : Nat) (l1 : List S80) (r : Bool) (w : World) (hr0_0 : Kd.C Kd.string w A0_0 l0_0.length l0_0) (hc0_0 : l0_0.length ≤ c0_0) (hr0_1 : Kd.C k92 w A0_1 l0_1.length l0_1) (hc0_1 : l0_1.length ≤ c0_1) (hr0_2 : Kd.C (Kd.int .i64) w A0_2 l0_2.length l0_2) (hc0_2 : l0_2.length ≤ c0_2) (hr0_3 : Kd.C (Kd.int .i64) w A0_3 l0_3.length l0_3) (hc0_3 : l0_3.length ≤ c0_3) (hr0_4 : Kd.C k95 w A0_4 l0_4.length l0_4) (hc0_4 : l0_4.length ≤ c0_4) (hr0_5 : Kd.C k97 w A0_5 l0_5.length l0_5) (hc0_5 : l0_5.length ≤ c0_5) (hr1 : Kd.C k80 w A1 l1.length l1) (hc1 : l1.length ≤ c1) (h : impl_areRoutes.f l0_0 l0_1 l0_2 l0_3 l0_4 l0_5 l1 = some r) :
  Calls Try.prog 77 #[.agg #[.slice A0_0 l0_0.length c0_0, .slice A0_1 l0_1.length c0_1, .slice A0_2 l0_2.length c0_2, .slice A0_3 l0_3.length c0_3, .slice A0_4 l0_4.length c0_4, .slice A0_5 l0_5.length c0_5], .slice A1 l1.length c1] w fun e w' => e = .returned (.bool r) ∧ Below w.heap.size w w' := by
 have hu38 := Try.underlying38
 have hu80 := Try.underlying80
 have HN : Aside0 (Kd.C Kd.string w A0_0 l0_0.length l0_0 ∧ l0_0.length ≤ c0_0 ∧ Kd.C k92 w A0_1 l0_1.length l0_1 ∧ l0_1.length ≤ c0_1 ∧ Kd.C (Kd.int .i64) w A0_2 l0_2.length l0_2 ∧ l0_2.length ≤ c0_2 ∧ Kd.C (Kd.int .i64) w A0_3 l0_3.length l0_3 ∧ l0_3.length ≤ c0_3 ∧ Kd.C k95 w A0_4 l0_4.length l0_4 ∧ l0_4.length ≤ c0_4 ∧ Kd.C k97 w A0_5 l0_5.length l0_5 ∧ l0_5.length ≤ c0_5 ∧ Kd.C k80 w A1 l1.length l1) := ⟨hr0_0, hc0_0, hr0_1, hc0_1, hr0_2, hc0_2, hr0_3, hc0_3, hr0_4, hc0_4, hr0_5, hc0_5, hr1⟩
 have HM : Aside0 (l0_0.length ≤ 9223372036854775807 ∧ l1.length ≤ 9223372036854775807) := ⟨Kd.C_max hr0_0, Kd.C_max hr1⟩
 clear hr0_0 hc0_0 hr0_1 hc0_1 hr0_2 hc0_2 hr0_3 hc0_3 hr0_4 hc0_4 hr0_5 hc0_5 hr1
 have HB := aM (Below.refl w.heap.size w)
 unfold impl_areRoutes.f at h
 by_cases hlen : l1.length = l0_0.length
 rotate_left
 ·rw [if_neg hlen] at h
  obtain rfl := Option.some.inj h
  clear h
  have hlz : ((l1.length : Int) != (l0_0.length : Int)) = true := by simp; omega
  go_enter Try.func77, Try.ntmps77
  go_wp2_with (((with_reducible refine gate_dst (N := 2) rfl ?_); refine box_event rfl (N := 2) rfl (cs := #[.slice A0_0 l0_0.length c0_0, .slice A0_1 l0_1.length c0_1, .slice A0_2 l0_2.length c0_2, .slice A0_3 l0_3.length c0_3, .slice A0_4 l0_4.length c0_4, .slice A0_5 l0_5.length c0_5]) (t := 38) (by go_simp; done) ?_; intro gn hgn wn hbox hbb; have BN := aM (And.intro hbox (show w.heap.size ≤ gn by rw [hgn]; exact HB.out.size)); replace HB := aM (HB.out.trans (hbb.mono HB.out.size)); clear hbb hbox hgn; obtain ⟨hn0, hn1, hn2, hn3, hn4, hn5⟩ := box6 BN.out.1))
  go_ret
  exact ⟨rfl, HB.out⟩
 rw [if_pos hlen] at h
 have hlz : ((l1.length : Int) != (l0_0.length : Int)) = false := by simp [hlen]
 have HL : Aside0 (routesI l0_1 (l1.drop 0) 0 = some r) := ⟨by rw [List.drop_zero]; exact h⟩
 clear h
 go_enter Try.func77, Try.ntmps77
 go_wp2_with (((with_reducible refine gate_dst (N := 2) rfl ?_); refine box_event rfl (N := 2) rfl (cs := #[.slice A0_0 l0_0.length c0_0, .slice A0_1 l0_1.length c0_1, .slice A0_2 l0_2.length c0_2, .slice A0_3 l0_3.length c0_3, .slice A0_4 l0_4.length c0_4, .slice A0_5 l0_5.length c0_5]) (t := 38) (by go_simp; done) ?_; intro gn hgn wn hbox hbb; have BN := aM (And.intro hbox (show w.heap.size ≤ gn by rw [hgn]; exact HB.out.size)); replace HB := aM (HB.out.trans (hbb.mono HB.out.size)); clear hbb hbox hgn; obtain ⟨hn0, hn1, hn2, hn3, hn4, hn5⟩ := box6 BN.out.1))
 clear hn0 hn1 hn2 hn3 hn4 hn5
 go_loopg [15] l1.length (fun gg s9 wr => ∃ kk : Nat, kk ≤ l1.length ∧ l1.length - kk ≤ gg ∧ s9 = .int .i64 kk ∧ Aside0 (Below w.heap.size w wr) ∧ Aside0 (wr.heap[gn]? = some (.cells #[.slice A0_0 l0_0.length c0_0, .slice A0_1 l0_1.length c0_1, .slice A0_2 l0_2.length c0_2, .slice A0_3 l0_3.length c0_3, .slice A0_4 l0_4.length c0_4, .slice A0_5 l0_5.length c0_5] 38 (0, 0)) ∧ w.heap.size ≤ gn) ∧ Aside0 (routesI l0_1 (l1.drop kk) kk = some r))
 case atStart => exact ⟨0, Nat.zero_le _, by omega, rfl, HB, BN, HL⟩
 clear HL HB BN
 obtain ⟨kk, hkk, hg, rfl, HB, BN, HL⟩ := hrel
 have HM0 := HM.out.1
 have HM1 := HM.out.2
 have hN := HL.out
 clear HL
 by_cases hlt : kk < l1.length
 rotate_left
 ·have hltz : ¬ (kk : Int) < (l1.length : Int) := by omega
  obtain rfl : kk = l1.length := by omega
  rw [List.drop_length, routesI] at hN
  obtain rfl := Option.some.inj hN
  clear hN
  obtain ⟨hn0, hn1, hn2, hn3, hn4, hn5⟩ := box6 BN.out.1
  go_wp2
  go_ret
  exact ⟨rfl, HB.out⟩
 have hltz : (kk : Int) < (l1.length : Int) := by omega
 have hkc0 : (0 : Int) ≤ (kk : Int) := Int.natCast_nonneg _
 obtain ⟨ad, ea, hx0, hx1, hx2, hx3⟩ := at_T80 HN.out.2.2.2.2.2.2.2.2.2.2.2.2 (kk : Int) (by omega) (by omega)
 cases ea
 rw [Int.toNat_natCast] at hx0 hx1 hx2 hx3
 replace hx0 := swB HB.out hx0
 replace hx1 := swB HB.out hx1
 replace hx2 := swB HB.out hx2
 replace hx3 := swB HB.out hx3
 have hrd : rd_T80 l1 (kk : Int) = l1[kk] := by unfold rd_T80; simp [List.getD, hlt]
 rw [hrd] at hx0 hx1 hx2 hx3
 rw [List.drop_eq_getElem_cons hlt, routesI] at hN
 have ew : IntKind.i64.wrap ((kk : Int) + 1) = ((kk + 1 : Nat) : Int) := IntWalk.i64_in _ (by omega)
 clear hrd
 generalize l1[kk] = x at hN hx0 hx1 hx2 hx3
 obtain ⟨x0, x1, x2, x3⟩ := x
 dsimp only at hN hx0 hx1 hx2 hx3
 have HBb : Aside0 (∀ V : World, Calls Try.prog 80 #[.int .i64 x1, .int .i64 0, .int .i64 1000] V fun e W' => e = .returned (.bool (inB x1 0 1000)) ∧ Drawn0 V W') := ⟨fun V => impl_within.calls x1 0 1000 _ V (within_is x1 0 1000)⟩
 have HC : Aside0 (∀ V : World, Calls Try.prog 80 #[.int .i64 x2, .int .i64 0, .int .i64 10000] V fun e W' => e = .returned (.bool (inB x2 0 10000)) ∧ Drawn0 V W') := ⟨fun V => impl_within.calls x2 0 10000 _ V (within_is x2 0 10000)⟩
 generalize inB x1 0 1000 = rb at hN HBb
 generalize inB x2 0 10000 = rc at hN HC
 have HCT : Aside0 (∀ V : World, Below w.heap.size w V → Calls Try.prog 89 #[.agg #[.slice A0_0 l0_0.length c0_0, .slice A0_1 l0_1.length c0_1, .slice A0_2 l0_2.length c0_2, .slice A0_3 l0_3.length c0_3, .slice A0_4 l0_4.length c0_4, .slice A0_5 l0_5.length c0_5], .int .i64 (kk : Int), .int .i64 x0] V fun e w' => e = .returned (.int .i64 (linkI l0_1 (kk : Int) x0)) ∧ Below V.heap.size V w') := ⟨fun V hV => impl_linkOf.calls A0_0 c0_0 l0_0 A0_1 c0_1 l0_1 A0_2 c0_2 l0_2 A0_3 c0_3 l0_3 A0_4 c0_4 l0_4 A0_5 c0_5 l0_5 (kk : Int) x0 _ V (Kd.C_below HN.out.1 hV) HN.out.2.1 (Kd.C_below HN.out.2.2.1 hV) HN.out.2.2.2.1 (Kd.C_below HN.out.2.2.2.2.1 hV) HN.out.2.2.2.2.2.1 (Kd.C_below HN.out.2.2.2.2.2.2.1 hV) HN.out.2.2.2.2.2.2.2.1 (Kd.C_below HN.out.2.2.2.2.2.2.2.2.1 hV) HN.out.2.2.2.2.2.2.2.2.2.1 (Kd.C_below HN.out.2.2.2.2.2.2.2.2.2.2.1 hV) HN.out.2.2.2.2.2.2.2.2.2.2.2.1 rfl⟩
 generalize linkI l0_1 (kk : Int) x0 = u at hN HCT
 have HF := aM (ifz hN).1
 have HT := aM (ifz hN).2
 clear hN
 go_upto_region 6 with (first | ((with_reducible refine gate_dst (N := 6) rfl ?_); refine box_event rfl (N := 6) rfl (cs := #[.int .i64 0, .int .i64 0, .int .i64 0, .bool false]) (t := 80) (by go_simp; done) ?_; intro g6 hg6 w6 hbox hbb; have HX := aM (And.intro hbox (And.intro (show w.heap.size ≤ g6 by rw [hg6]; exact HB.out.size) (show gn ≠ g6 by rw [hg6]; exact Nat.ne_of_lt (blk_lt BN.out.1)))); replace HB := aM (HB.out.trans (hbb.mono HB.out.size)); replace BN := aM (And.intro (blk_below BN.out.1 hbb) BN.out.2); clear hbb hbox hg6) | ((with_reducible refine gate_store (t := 80) (p := 6) rfl ?_); obtain ⟨hc0, hc1, hc2, hc3⟩ := swc4 HX.out.1; have hf0 := blk_frozen HX.out.1 0; have hf1 := blk_frozen HX.out.1 1; have hf2 := blk_frozen HX.out.1 2; have hf3 := blk_frozen HX.out.1 3; refine store_event (t := 80) (p := 6) (v := .tmp 19) (w1 := ((((w6.setCell ⟨g6, 0, none⟩ (.int .i64 x0)).setCell ⟨g6, 1, none⟩ (.int .i64 x1)).setCell ⟨g6, 2, none⟩ (.int .i64 x2)).setCell ⟨g6, 3, none⟩ (.bool x3))) ?hg ?ho ?hn ?hr ?_; (case ho => rfl); (case hg => rfl); (case hn => rfl); (case hr => (go_simp; done)); clear hc0 hf0 hc1 hf1 hc2 hf2 hc3 hf3; intro w7 hw_; obtain ⟨hbk, hkb, hkw⟩ := boxv4 (v0 := .int .i64 x0) (v1 := .int .i64 x1) (v2 := .int .i64 x2) (v3 := .bool x3) HX.out.1; rw [← hw_] at hbk hkb hkw; clear hw_; replace HB := aM (hkw _ HB.out HX.out.2.1); replace BN := aM (And.intro (blk_kept BN.out.1 hkb (fun h_ => HX.out.2.2 h_)) BN.out.2); replace HX := aM (And.intro hbk HX.out.2); clear hbk hkb hkw))
 clear hx0 hx1 hx2 hx3
 have HW : ∀ W, Below w7.heap.size w7 W → Below w.heap.size w W := fun W hW => HB.out.trans (hW.mono HB.out.size)
 have cN := fun (W : World) (hW : Below w7.heap.size w7 W) => blk_below BN.out.1 hW
 have cX := fun (W : World) (hW : Below w7.heap.size w7 W) => blk_below HX.out.1 hW
 refine seq_tail (R := []) [some 20, some 21, some 22, some 23, some 24, some 25, some 26, some 27, some 28, some 29, some 30, some 31, some 32, some 33, some 34, some 35, some 36, some 37, some 38, some 39, some 40, some 41, some 42, some 43, some 44, some 45, some 46, some 47, some 48, some 49, some 50, some 51, some 52, some 53, some 54, some 55, some 56, some 57] 59 38 [VP.eq (.pointer (some ⟨g6, 0, none⟩)), VP.eq (.int .i64 (x0)), VP.eq (.bool ((decide (x0 ≥ 0)))), VP.eq (.bool ((decide (x0 ≥ 0)))), VP.eq (cond (((decide (x0 ≥ 0)) == true)) (.agg #[.slice A0_0 l0_0.length c0_0, .slice A0_1 l0_1.length c0_1, .slice A0_2 l0_2.length c0_2, .slice A0_3 l0_3.length c0_3, .slice A0_4 l0_4.length c0_4, .slice A0_5 l0_5.length c0_5]) undef), VP.eq (cond (((decide (x0 ≥ 0)) == true)) (.int .i64 ((kk : Int))) undef), VP.eq (cond (((decide (x0 ≥ 0)) == true)) (.pointer (some ⟨g6, 0, none⟩)) undef), VP.eq (cond (((decide (x0 ≥ 0)) == true)) (.int .i64 (x0)) undef), VP.eq (cond (((decide (x0 ≥ 0)) == true)) (.int .i64 (u)) undef), VP.eq (cond (((decide (x0 ≥ 0)) == true)) (.bool ((decide (u < 0)))) undef), VP.eq (.bool (((decide (x0 ≥ 0)) && (decide (u < 0))))), VP.eq (.bool (((decide (x0 ≥ 0)) && (decide (u < 0))))), VP.eq (cond ((((decide (x0 ≥ 0)) && (decide (u < 0))) == false)) (.pointer (some ⟨g6, 0, none⟩)) undef), VP.eq (cond ((((decide (x0 ≥ 0)) && (decide (u < 0))) == false)) (.int .i64 (x0)) undef), VP.eq (cond ((((decide (x0 ≥ 0)) && (decide (u < 0))) == false)) (.bool ((decide (x0 < (-3))))) undef), VP.eq (.bool ((((decide (x0 ≥ 0)) && (decide (u < 0))) || (decide (x0 < (-3)))))), VP.eq (.bool ((((decide (x0 ≥ 0)) && (decide (u < 0))) || (decide (x0 < (-3)))))), VP.eq (cond (((((decide (x0 ≥ 0)) && (decide (u < 0))) || (decide (x0 < (-3)))) == false)) (.pointer (some ⟨g6, 1, none⟩)) undef), VP.eq (cond (((((decide (x0 ≥ 0)) && (decide (u < 0))) || (decide (x0 < (-3)))) == false)) (.int .i64 (x1)) undef), VP.eq (cond (((((decide (x0 ≥ 0)) && (decide (u < 0))) || (decide (x0 < (-3)))) == false)) (.bool (rb)) undef), VP.eq (cond (((((decide (x0 ≥ 0)) && (decide (u < 0))) || (decide (x0 < (-3)))) == false)) (.bool ((!rb))) undef), VP.eq (.bool (((((decide (x0 ≥ 0)) && (decide (u < 0))) || (decide (x0 < (-3)))) || (!rb)))), VP.eq (.bool (((((decide (x0 ≥ 0)) && (decide (u < 0))) || (decide (x0 < (-3)))) || (!rb)))), VP.eq (cond ((((((decide (x0 ≥ 0)) && (decide (u < 0))) || (decide (x0 < (-3)))) || (!rb)) == false)) (.pointer (some ⟨g6, 2, none⟩)) undef), VP.eq (cond ((((((decide (x0 ≥ 0)) && (decide (u < 0))) || (decide (x0 < (-3)))) || (!rb)) == false)) (.int .i64 (x2)) undef), VP.eq (cond ((((((decide (x0 ≥ 0)) && (decide (u < 0))) || (decide (x0 < (-3)))) || (!rb)) == false)) (.bool (rc)) undef), VP.eq (cond ((((((decide (x0 ≥ 0)) && (decide (u < 0))) || (decide (x0 < (-3)))) || (!rb)) == false)) (.bool ((!rc))) undef), VP.eq (.bool ((((((decide (x0 ≥ 0)) && (decide (u < 0))) || (decide (x0 < (-3)))) || (!rb)) || (!rc)))), VP.eq (.bool ((((((decide (x0 ≥ 0)) && (decide (u < 0))) || (decide (x0 < (-3)))) || (!rb)) || (!rc)))), VP.eq (cond (((((((decide (x0 ≥ 0)) && (decide (u < 0))) || (decide (x0 < (-3)))) || (!rb)) || (!rc)) == false)) (.pointer (some ⟨g6, 0, none⟩)) undef), VP.eq (cond (((((((decide (x0 ≥ 0)) && (decide (u < 0))) || (decide (x0 < (-3)))) || (!rb)) || (!rc)) == false)) (.int .i64 (x0)) undef), VP.eq (cond (((((((decide (x0 ≥ 0)) && (decide (u < 0))) || (decide (x0 < (-3)))) || (!rb)) || (!rc)) == false)) (.bool ((x0 == (-3)))) undef), VP.eq (cond (((((((decide (x0 ≥ 0)) && (decide (u < 0))) || (decide (x0 < (-3)))) || (!rb)) || (!rc)) == false)) (.bool ((x0 == (-3)))) undef), VP.eq (cond ((((((((decide (x0 ≥ 0)) && (decide (u < 0))) || (decide (x0 < (-3)))) || (!rb)) || (!rc)) == false) && ((x0 == (-3)) == true))) (.agg #[.int .i64 (x0), .int .i64 (x1), .int .i64 (x2), .bool (x3)]) undef), VP.eq (cond ((((((((decide (x0 ≥ 0)) && (decide (u < 0))) || (decide (x0 < (-3)))) || (!rb)) || (!rc)) == false) && ((x0 == (-3)) == true))) (.agg #[.int .i64 ((-3)), .int .i64 (0), .int .i64 (0), .bool (false)]) undef), VP.eq (cond ((((((((decide (x0 ≥ 0)) && (decide (u < 0))) || (decide (x0 < (-3)))) || (!rb)) || (!rc)) == false) && ((x0 == (-3)) == true))) (.bool ((!((x0 == ((-3))) && ((x1 == 0) && ((x2 == 0) && (x3 == false))))))) undef), VP.eq (cond (((((((decide (x0 ≥ 0)) && (decide (u < 0))) || (decide (x0 < (-3)))) || (!rb)) || (!rc)) == false)) (.bool (((x0 == (-3)) && (!((x0 == ((-3))) && ((x1 == 0) && ((x2 == 0) && (x3 == false)))))))) undef), VP.eq (.bool (((((((decide (x0 ≥ 0)) && (decide (u < 0))) || (decide (x0 < (-3)))) || (!rb)) || (!rc)) || ((x0 == (-3)) && (!((x0 == ((-3))) && ((x1 == 0) && ((x2 == 0) && (x3 == false)))))))))] rfl rfl (by kernel_rfl) rfl ⟨?_, ?_, ?_, ?_, ?_, ?_, ?_, ?_, ?_, ?_, ?_, ?_, ?_, ?_, ?_, ?_, ?_, ?_, ?_, ?_, ?_, ?_, ?_, ?_, ?_, ?_, ?_, ?_, ?_, ?_, ?_, ?_, ?_, ?_, ?_, ?_, ?_, ?_, trivial⟩ ?_
 ·exact fun _ W _ hW _ hb hd _ hK _ => gd_step (C := true) wn_ (fun _ => x_fa80 rfl (oD (by kernel_rfl)) (hb 6)) (hK _ W rfl (Below.refl _ _))
 ·exact fun _ W _ hW _ hb hd _ hK _ => gd_step (C := true) wn_ (fun _ => x_ld3 rfl (hd 0 20) ((blk_cell (cX W hW) 0).trans rfl)) (hK _ W rfl (Below.refl _ _))
 ·exact fun _ W _ hW _ hb hd _ hK _ => gd_step (C := true) wn_ (fun _ => x_geq rfl (hd 1 21) rfl) (hK _ W rfl (Below.refl _ _))
 ·exact fun _ W _ hW _ hb hd _ hK _ => gd_step (C := true) wn_ (fun _ => x_move rfl (hd 2 22)) (hK _ W rfl (Below.refl _ _))
 ·exact fun _ W _ hW _ hb hd _ hK _ => gd_step (wg0 (hd 3 23)) (fun hC => x_ld38 rfl (hb 2) (cN W hW)) (hK _ W rfl (Below.refl _ _))
 ·exact fun _ W _ hW _ hb hd _ hK _ => gd_step (wg0 (hd 3 23)) (fun hC => x_move rfl (hb 5)) (hK _ W rfl (Below.refl _ _))
 ·exact fun _ W _ hW _ hb hd _ hK _ => gd_step (wg0 (hd 3 23)) (fun hC => x_fa80 rfl (oD (by kernel_rfl)) (hb 6)) (hK _ W rfl (Below.refl _ _))
 ·exact fun _ W _ hW _ hb hd _ hK _ => gd_step (wg0 (hd 3 23)) (fun hC => x_ld3 rfl (cnd (hd 6 26) hC) ((blk_cell (cX W hW) 0).trans rfl)) (hK _ W rfl (Below.refl _ _))
 ·intro bq W B hW hB hb hd K hK hK2; exact gc_step (wg0 (hd 3 23)) (fun hC => ⟨x_call Try.func89 (by kernel_rfl) rfl rfl (args3 (cnd (hd 4 24) hC) (cnd (hd 5 25) hC) (cnd (hd 7 27) hC)), (HCT.out W (HW W hW)).mono (fun e_ W_ h_ => ⟨h_.1, h_.2⟩)⟩) (fun W_ hb_ => hK _ W_ rfl hb_)
 ·exact fun _ W _ hW _ hb hd _ hK _ => gd_step (wg0 (hd 3 23)) (fun hC => x_lss rfl (cnd (hd 8 28) hC) rfl) (hK _ W rfl (Below.refl _ _))
 ·exact fun _ W _ hW _ hb hd _ hK _ => gd_step (C := true) wn_ (fun _ => x_and rfl (hd 3 23) (hd 9 29)) (hK _ W rfl (Below.refl _ _))
 ·exact fun _ W _ hW _ hb hd _ hK _ => gd_step (C := true) wn_ (fun _ => x_move rfl (hd 10 30)) (hK _ W rfl (Below.refl _ _))
 ·exact fun _ W _ hW _ hb hd _ hK _ => gd_step (wg0 (hd 11 31)) (fun hC => x_fa80 rfl (oD (by kernel_rfl)) (hb 6)) (hK _ W rfl (Below.refl _ _))
 ·exact fun _ W _ hW _ hb hd _ hK _ => gd_step (wg0 (hd 11 31)) (fun hC => x_ld3 rfl (cnd (hd 12 32) hC) ((blk_cell (cX W hW) 0).trans rfl)) (hK _ W rfl (Below.refl _ _))
 ·exact fun _ W _ hW _ hb hd _ hK _ => gd_step (wg0 (hd 11 31)) (fun hC => x_lss rfl (cnd (hd 13 33) hC) rfl) (hK _ W rfl (Below.refl _ _))
 ·exact fun _ W _ hW _ hb hd _ hK _ => gd_step (C := true) wn_ (fun _ => x_or rfl (hd 11 31) (hd 14 34)) (hK _ W rfl (Below.refl _ _))
 ·exact fun _ W _ hW _ hb hd _ hK _ => gd_step (C := true) wn_ (fun _ => x_move rfl (hd 15 35)) (hK _ W rfl (Below.refl _ _))
 ·exact fun _ W _ hW _ hb hd _ hK _ => gd_step (wg0 (hd 16 36)) (fun hC => x_fa80 rfl (oD (by kernel_rfl)) (hb 6)) (hK _ W rfl (Below.refl _ _))
 ·exact fun _ W _ hW _ hb hd _ hK _ => gd_step (wg0 (hd 16 36)) (fun hC => x_ld3 rfl (cnd (hd 17 37) hC) ((blk_cell (cX W hW) 1).trans rfl)) (hK _ W rfl (Below.refl _ _))
 ·intro bq W B hW hB hb hd K hK hK2; exact gc_step (wg0 (hd 16 36)) (fun hC => ⟨x_call Try.func80 (by kernel_rfl) rfl rfl (args3 (cnd (hd 18 38) hC) rfl rfl), (HBb.out W).mono (fun e_ W_ h_ => ⟨h_.1, h_.2.below⟩)⟩) (fun W_ hb_ => hK _ W_ rfl hb_)
 ·exact fun _ W _ hW _ hb hd _ hK _ => gd_step (wg0 (hd 16 36)) (fun hC => x_not rfl (cnd (hd 19 39) hC)) (hK _ W rfl (Below.refl _ _))
 ·exact fun _ W _ hW _ hb hd _ hK _ => gd_step (C := true) wn_ (fun _ => x_or rfl (hd 16 36) (hd 20 40)) (hK _ W rfl (Below.refl _ _))
 ·exact fun _ W _ hW _ hb hd _ hK _ => gd_step (C := true) wn_ (fun _ => x_move rfl (hd 21 41)) (hK _ W rfl (Below.refl _ _))
 ·exact fun _ W _ hW _ hb hd _ hK _ => gd_step (wg0 (hd 22 42)) (fun hC => x_fa80 rfl (oD (by kernel_rfl)) (hb 6)) (hK _ W rfl (Below.refl _ _))
 ·exact fun _ W _ hW _ hb hd _ hK _ => gd_step (wg0 (hd 22 42)) (fun hC => x_ld3 rfl (cnd (hd 23 43) hC) ((blk_cell (cX W hW) 2).trans rfl)) (hK _ W rfl (Below.refl _ _))
 ·intro bq W B hW hB hb hd K hK hK2; exact gc_step (wg0 (hd 22 42)) (fun hC => ⟨x_call Try.func80 (by kernel_rfl) rfl rfl (args3 (cnd (hd 24 44) hC) rfl rfl), (HC.out W).mono (fun e_ W_ h_ => ⟨h_.1, h_.2.below⟩)⟩) (fun W_ hb_ => hK _ W_ rfl hb_)
 ·exact fun _ W _ hW _ hb hd _ hK _ => gd_step (wg0 (hd 22 42)) (fun hC => x_not rfl (cnd (hd 25 45) hC)) (hK _ W rfl (Below.refl _ _))
 ·exact fun _ W _ hW _ hb hd _ hK _ => gd_step (C := true) wn_ (fun _ => x_or rfl (hd 22 42) (hd 26 46)) (hK _ W rfl (Below.refl _ _))
 ·exact fun _ W _ hW _ hb hd _ hK _ => gd_step (C := true) wn_ (fun _ => x_move rfl (hd 27 47)) (hK _ W rfl (Below.refl _ _))
 ·exact fun _ W _ hW _ hb hd _ hK _ => gd_step (wg0 (hd 28 48)) (fun hC => x_fa80 rfl (oD (by kernel_rfl)) (hb 6)) (hK _ W rfl (Below.refl _ _))
 ·exact fun _ W _ hW _ hb hd _ hK _ => gd_step (wg0 (hd 28 48)) (fun hC => x_ld3 rfl (cnd (hd 29 49) hC) ((blk_cell (cX W hW) 0).trans rfl)) (hK _ W rfl (Below.refl _ _))
 ·exact fun _ W _ hW _ hb hd _ hK _ => gd_step (wg0 (hd 28 48)) (fun hC => x_eql rfl (cnd (hd 30 50) hC) rfl) (hK _ W rfl (Below.refl _ _))
 ·exact fun _ W _ hW _ hb hd _ hK _ => gd_step (wg0 (hd 28 48)) (fun hC => x_move rfl (cnd (hd 31 51) hC)) (hK _ W rfl (Below.refl _ _))
 ·exact fun _ W _ hW _ hb hd _ hK _ => gd_step (wg (hd 32 52)) (fun hC => x_ld80 rfl (hb 6) (cX W hW)) (hK _ W rfl (Below.refl _ _))
 ·exact fun _ W _ hW _ hb hd _ hK _ => gd_step (wg (hd 32 52)) (fun hC => x_bd80 rfl) (hK _ W rfl (Below.refl _ _))
 ·exact fun _ W _ hW _ hb hd _ hK _ => gd_step (wg (hd 32 52)) (fun hC => x_neq80 rfl (cnd (hd 33 53) hC) (cnd (hd 34 54) hC)) (hK _ W rfl (Below.refl _ _))
 ·exact fun _ W _ hW _ hb hd _ hK _ => gd_step (wg0 (hd 28 48)) (fun hC => x_and rfl (cnd (hd 32 52) hC) (cnd_and (hd 35 55) hC)) (hK _ W rfl (Below.refl _ _))
 ·exact fun _ W _ hW _ hb hd _ hK _ => gd_step (C := true) wn_ (fun _ => x_or rfl (hd 28 48) (hd 36 56)) (hK _ W rfl (Below.refl _ _))
 intro vals F W B hF hW hBB hV
 have hf : vals 57 = .bool (((((((decide (x0 ≥ 0)) && (decide (u < 0))) || (decide (x0 < (-3)))) || (!rb)) || (!rc)) || ((x0 == (-3)) && (!((x0 == ((-3))) && ((x1 == 0) && ((x2 == 0) && (x3 == false)))))))) := hV 37 57 (oD (by kernel_rfl)) rfl
 have HB9 := aM (HW W hW)
 have BN9 := aM (And.intro (cN W hW) BN.out.2)
 clear HB BN
 have HB := HB9
 have BN := BN9
 clear HB9 BN9 hW HW cN cX HX
 rw [hF]
 clear hF hV hBB
 simp only [cond_true, List.take, fillA, Act.put, List.setIfInBounds_toArray, List.set_cons_zero, List.set_cons_succ, hf]
 clear hf
 cases hR : ((((((decide (x0 ≥ 0)) && (decide (u < 0))) || (decide (x0 < (-3)))) || (!rb)) || (!rc)) || ((x0 == (-3)) && (!((x0 == ((-3))) && ((x1 == 0) && ((x2 == 0) && (x3 == false))))))) with
 | true =>
  obtain ⟨hn0, hn1, hn2, hn3, hn4, hn5⟩ := box6 BN.out.1
  have hN : r = false := HF.out hR
  subst hN
  go_wp2
  go_ret
  exact ⟨rfl, HB.out⟩
 | false =>
  obtain ⟨hn0, hn1, hn2, hn3, hn4, hn5⟩ := box6 BN.out.1
  have HL := aM (HT.out hR)
  clear HT HF
  go_wp2
  go_roundg (l1.length - (kk + 1))
  case measure => omega
  case rel => exact ⟨kk + 1, by omega, by omega, by go_num, HB, BN, HL⟩
def impl_routesCode.j0 : Nat → List Int → List Bool → List (S80) → Bool → Bool → List ByteArray → List (S92) → List Int → List Int → List (S95) → List (S97) → Option (Int)
 | 0, _, _, _, _, _, _, _, _, _, _, _ => none
 | k + 1, x1, x2, x3, x4, x11, x321000, x321001, x321002, x321003, x321004, x321005 => if x11 = true then (some 2) else ((impl_isNet.f k x321000 x321001 x321002 x321003 x321004 x321005).bind fun t321 => (if t321 = true then ((impl_isAround.f x321000 x321001 x321002 x321003 x321004 x321005 x1 x2).bind fun t322 => (if t322 = true then (if x4 = true then ((impl_areRoutes.f x321000 x321001 x321002 x321003 x321004 x321005 x3).bind fun t323 => (if t323 = true then (some 0) else (some 1))) else (some 0)) else (some 5))) else (some 1)))
def impl_routesCode.f (k : Nat) (l0_0 : List ByteArray) (l0_1 : List (S92)) (l0_2 : List Int) (l0_3 : List Int) (l0_4 : List (S95)) (l0_5 : List (S97)) (l1 : List Int) (l2 : List Bool) (l3 : List (S80)) (a4 : Bool) : Option (Int) := if (l1.length : Int) > 4096 then (impl_routesCode.j0 k l1 l2 l3 a4 true l0_0 l0_1 l0_2 l0_3 l0_4 l0_5) else (if (l2.length : Int) > 4096 then (impl_routesCode.j0 k l1 l2 l3 a4 true l0_0 l0_1 l0_2 l0_3 l0_4 l0_5) else (impl_routesCode.j0 k l1 l2 l3 a4 (decide ((l3.length : Int) > 4096)) l0_0 l0_1 l0_2 l0_3 l0_4 l0_5))
theorem impl_routesCode.calls (k : Nat) (A0_0 : Option Addr) (c0_0 : Nat) (l0_0 : List ByteArray) (A0_1 : Option Addr) (c0_1 : Nat) (l0_1 : List (S92)) (A0_2 : Option Addr) (c0_2 : Nat) (l0_2 : List Int) (A0_3 : Option Addr) (c0_3 : Nat) (l0_3 : List Int) (A0_4 : Option Addr) (c0_4 : Nat) (l0_4 : List (S95)) (A0_5 : Option Addr) (c0_5 : Nat) (l0_5 : List (S97)) (A1 : Option Addr) (c1 : Nat) (l1 : List Int) (A2 : Option Addr) (c2 : Nat) (l2 : List Bool) (A3 : Option Addr) (c3 : Nat) (l3 : List (S80)) (a4 : Bool) (r : Int) (w : World) (hr0_0 : Kd.C Kd.string w A0_0 l0_0.length l0_0) (hc0_0 : l0_0.length ≤ c0_0) (hr0_1 : Kd.C k92 w A0_1 l0_1.length l0_1) (hc0_1 : l0_1.length ≤ c0_1) (hr0_2 : Kd.C (Kd.int .i64) w A0_2 l0_2.length l0_2) (hc0_2 : l0_2.length ≤ c0_2) (hr0_3 : Kd.C (Kd.int .i64) w A0_3 l0_3.length l0_3) (hc0_3 : l0_3.length ≤ c0_3) (hr0_4 : Kd.C k95 w A0_4 l0_4.length l0_4) (hc0_4 : l0_4.length ≤ c0_4) (hr0_5 : Kd.C k97 w A0_5 l0_5.length l0_5) (hc0_5 : l0_5.length ≤ c0_5) (hr1 : Kd.C (Kd.int .i64) w A1 l1.length l1) (hc1 : l1.length ≤ c1) (hr2 : Kd.C Kd.bool w A2 l2.length l2) (hc2 : l2.length ≤ c2) (hr3 : Kd.C k80 w A3 l3.length l3) (hc3 : l3.length ≤ c3) (h : impl_routesCode.f k l0_0 l0_1 l0_2 l0_3 l0_4 l0_5 l1 l2 l3 a4 = some r) :
  Calls Try.prog 46 #[.agg #[.slice A0_0 l0_0.length c0_0, .slice A0_1 l0_1.length c0_1, .slice A0_2 l0_2.length c0_2, .slice A0_3 l0_3.length c0_3, .slice A0_4 l0_4.length c0_4, .slice A0_5 l0_5.length c0_5], .slice A1 l1.length c1, .slice A2 l2.length c2, .slice A3 l3.length c3, .bool a4] w fun e w' => e = .returned (.int .i64 r) ∧ Below w.heap.size w w' := by
 have hu38 := Try.underlying38
 obtain ⟨HR0_0, HC0_0, HR0_1, HC0_1, HR0_2, HC0_2, HR0_3, HC0_3, HR0_4, HC0_4, HR0_5, HC0_5⟩ := as12 hr0_0 hc0_0 hr0_1 hc0_1 hr0_2 hc0_2 hr0_3 hc0_3 hr0_4 hc0_4 hr0_5 hc0_5
 clear hr0_0 hc0_0 hr0_1 hc0_1 hr0_2 hc0_2 hr0_3 hc0_3 hr0_4 hc0_4 hr0_5 hc0_5
 have HR1 := aM hr1
 have HC1 := aM hc1
 clear hr1 hc1
 have HR2 := aM hr2
 have HC2 := aM hc2
 clear hr2 hc2
 have HR3 := aM hr3
 have HC3 := aM hc3
 clear hr3 hc3
 have HB := aM (Below.refl w.heap.size w)
 have H : (if (l1.length : Int) > 4096 then (impl_routesCode.j0 k l1 l2 l3 a4 true l0_0 l0_1 l0_2 l0_3 l0_4 l0_5) else (if (l2.length : Int) > 4096 then (impl_routesCode.j0 k l1 l2 l3 a4 true l0_0 l0_1 l0_2 l0_3 l0_4 l0_5) else (impl_routesCode.j0 k l1 l2 l3 a4 (decide ((l3.length : Int) > 4096)) l0_0 l0_1 l0_2 l0_3 l0_4 l0_5))) = some r := h
 clear h
 have HC6 := aM H
 clear H
 go_enter Try.func46, Try.ntmps46
 go_upto_region 1 with (((with_reducible refine gate_dst (N := 5) rfl ?_); (try (refine gate_guard (by rfl) ?_; dsimp only)); refine box_event rfl (N := 5) rfl (cs := #[.slice A0_0 l0_0.length c0_0, .slice A0_1 l0_1.length c0_1, .slice A0_2 l0_2.length c0_2, .slice A0_3 l0_3.length c0_3, .slice A0_4 l0_4.length c0_4, .slice A0_5 l0_5.length c0_5]) (t := 38) (by go_simp; done) ?_; intro gb320 hg w7 hbox hb; have BK320 := aM (hbox); have GW320 := bGE HB.out hg; have GE320 := bGE HB.out hg; replace HB := aB HB hb; clear hb hbox hg))
 (try simp only [Act.put, List.setIfInBounds_toArray, List.set_cons_zero, List.set_cons_succ])
 go_cut [11] (fun v11 wc => ∃ (kq : Nat) (x11_5 : Bool), v11 = .bool x11_5 ∧ Aside0 (impl_routesCode.j0 kq l1 l2 l3 a4 x11_5 l0_0 l0_1 l0_2 l0_3 l0_4 l0_5 = some r) ∧ Aside0 (kq ≤ k) ∧ Aside0 (wc.heap[gb320]? = some (.cells #[(.slice A0_0 l0_0.length c0_0), (.slice A0_1 l0_1.length c0_1), (.slice A0_2 l0_2.length c0_2), (.slice A0_3 l0_3.length c0_3), (.slice A0_4 l0_4.length c0_4), (.slice A0_5 l0_5.length c0_5)] 38 (0, 0))) ∧ Aside0 (Below w.heap.size w wc))
 case first =>
  have H := HC6.out
  clear HC6
  by_cases c8 : (l1.length : Int) > 4096
  ·rw [if_pos c8] at H
   have c8b0 : decide (4096 < (l1.length : Int)) = true := decide_eq_true c8
   have c8b1 : decide (4096 < l1.length) = true := decide_eq_true (by omega)
   clear c8
   (skip)
   have H' := aM H
   clear H
   go_wp2
   go_meet
   case rel => exact ⟨_, (true), (by rfl), H', ⟨by omega⟩, ⟨by exact BK320.out⟩, ⟨by repeat ((with_reducible exact HB.out))⟩⟩
  rw [if_neg c8] at H
  have c8b0 : decide (4096 < (l1.length : Int)) = false := decide_eq_false c8
  have c8b1 : decide (4096 < l1.length) = false := decide_eq_false (by omega)
  clear c8
  (skip)
  by_cases c9 : (l2.length : Int) > 4096
  ·rw [if_pos c9] at H
   have c9b0 : decide (4096 < (l2.length : Int)) = true := decide_eq_true c9
   have c9b1 : decide (4096 < l2.length) = true := decide_eq_true (by omega)
   clear c9
   have H' := aM H
   clear H
   go_wp2
   go_meet
   case rel => exact ⟨_, (true), (by rfl), H', ⟨by omega⟩, ⟨by exact BK320.out⟩, ⟨by repeat ((with_reducible exact HB.out))⟩⟩
  rw [if_neg c9] at H
  have c9b0 : decide (4096 < (l2.length : Int)) = false := decide_eq_false c9
  have c9b1 : decide (4096 < l2.length) = false := decide_eq_false (by omega)
  clear c9
  have H' := aM H
  clear H
  go_wp2
  go_meet
  case rel => exact ⟨_, (decide ((l3.length : Int) > 4096)), (by rfl), H', ⟨by omega⟩, ⟨by exact BK320.out⟩, ⟨by repeat ((with_reducible exact HB.out))⟩⟩
 clear HC6
 obtain ⟨kq, x11_5, rfl, HA, HJ5, BK320, HB⟩ := hcut
 cases kq with
 | zero => exact absurd HA.out (by simp [impl_routesCode.j0])
 | succ kj5 =>
  have H := HA.out
  clear HA
  simp only [impl_routesCode.j0] at H
  by_cases c10 : x11_5 = true
  ·subst c10
   rw [if_pos rfl] at H
   obtain rfl := Option.some.inj H
   go_wp2
   go_ret
   exact ⟨by rfl, by repeat ((with_reducible exact HB.out))⟩
  replace c10 := Bool.eq_false_iff.mpr c10
  subst c10
  rw [if_neg (show ¬ (false = true) by decide)] at H
  replace H := bS H
  obtain ⟨t321, A110, H⟩ := H
  replace H : (if t321 = true then ((impl_isAround.f l0_0 l0_1 l0_2 l0_3 l0_4 l0_5 l1 l2).bind fun t322 => (if t322 = true then (if a4 = true then ((impl_areRoutes.f l0_0 l0_1 l0_2 l0_3 l0_4 l0_5 l3).bind fun t323 => (if t323 = true then (some 0) else (some 1))) else (some 0)) else (some 5))) else (some 1)) = some r := H
  have A11 := aM A110
  clear A110
  by_cases c12 : t321 = true
  rotate_left
  ·replace c12 := Bool.eq_false_iff.mpr c12
   subst c12
   rw [if_neg (show ¬ (false = true) by decide)] at H
   obtain rfl := Option.some.inj H
   obtain ⟨hcz38_0, hcz38_1, hcz38_2, hcz38_3, hcz38_4, hcz38_5⟩ := swc6 BK320.out
   obtain ⟨hfz38_0, hfz38_1, hfz38_2, hfz38_3, hfz38_4, hfz38_5⟩ := swf6 BK320.out
   go_wp2_with ((go_at_call 62; (with_reducible refine (impl_isNet.calls kj5 _ _ l0_0 _ _ l0_1 _ _ l0_2 _ _ l0_3 _ _ l0_4 _ _ l0_5 false _ (Kd.C_below HR0_0.out HB.out) HC0_0.out (Kd.C_below HR0_1.out HB.out) HC0_1.out (Kd.C_below HR0_2.out HB.out) HC0_2.out (Kd.C_below HR0_3.out HB.out) HC0_3.out (Kd.C_below HR0_4.out HB.out) HC0_4.out (Kd.C_below HR0_5.out HB.out) HC0_5.out A11.out).mono ?_); rintro e w39 ⟨rfl, hb⟩; replace BK320 := aK BK320 hb; replace HB := aB HB hb; (try clear hb)))
   go_ret
   exact ⟨by rfl, by repeat ((with_reducible exact HB.out))⟩
  subst c12
  rw [if_pos rfl] at H
  replace H := bS H
  obtain ⟨t322, A130, H⟩ := H
  replace H : (if t322 = true then (if a4 = true then ((impl_areRoutes.f l0_0 l0_1 l0_2 l0_3 l0_4 l0_5 l3).bind fun t323 => (if t323 = true then (some 0) else (some 1))) else (some 0)) else (some 5)) = some r := H
  have A13 := aM A130
  clear A130
  by_cases c14 : t322 = true
  rotate_left
  ·replace c14 := Bool.eq_false_iff.mpr c14
   subst c14
   rw [if_neg (show ¬ (false = true) by decide)] at H
   obtain rfl := Option.some.inj H
   obtain ⟨hcz34_0, hcz34_1, hcz34_2, hcz34_3, hcz34_4, hcz34_5⟩ := swc6 BK320.out
   obtain ⟨hfz34_0, hfz34_1, hfz34_2, hfz34_3, hfz34_4, hfz34_5⟩ := swf6 BK320.out
   go_wp2_with (first | (go_at_call 62; (with_reducible refine (impl_isNet.calls kj5 _ _ l0_0 _ _ l0_1 _ _ l0_2 _ _ l0_3 _ _ l0_4 _ _ l0_5 true _ (Kd.C_below HR0_0.out HB.out) HC0_0.out (Kd.C_below HR0_1.out HB.out) HC0_1.out (Kd.C_below HR0_2.out HB.out) HC0_2.out (Kd.C_below HR0_3.out HB.out) HC0_3.out (Kd.C_below HR0_4.out HB.out) HC0_4.out (Kd.C_below HR0_5.out HB.out) HC0_5.out A11.out).mono ?_); rintro e w35 ⟨rfl, hb⟩; replace BK320 := aK BK320 hb; replace HB := aB HB hb; (try clear hb); obtain ⟨hcz36_0, hcz36_1, hcz36_2, hcz36_3, hcz36_4, hcz36_5⟩ := swc6 BK320.out; obtain ⟨hfz36_0, hfz36_1, hfz36_2, hfz36_3, hfz36_4, hfz36_5⟩ := swf6 BK320.out) | (go_at_call 76; (with_reducible refine (impl_isAround.calls _ _ l0_0 _ _ l0_1 _ _ l0_2 _ _ l0_3 _ _ l0_4 _ _ l0_5 _ _ l1 _ _ l2 false _ (Kd.C_below HR0_0.out HB.out) HC0_0.out (Kd.C_below HR0_1.out HB.out) HC0_1.out (Kd.C_below HR0_2.out HB.out) HC0_2.out (Kd.C_below HR0_3.out HB.out) HC0_3.out (Kd.C_below HR0_4.out HB.out) HC0_4.out (Kd.C_below HR0_5.out HB.out) HC0_5.out (Kd.C_below HR1.out HB.out) HC1.out (Kd.C_below HR2.out HB.out) HC2.out A13.out).mono ?_); rintro e w37 ⟨rfl, hb⟩; replace BK320 := aK BK320 hb; replace HB := aB HB hb; (try clear hb)))
   go_ret
   exact ⟨by rfl, by repeat ((with_reducible exact HB.out))⟩
  subst c14
  rw [if_pos rfl] at H
  by_cases c15 : a4 = true
  rotate_left
  ·replace c15 := Bool.eq_false_iff.mpr c15
   subst c15
   rw [if_neg (show ¬ (false = true) by decide)] at H
   obtain rfl := Option.some.inj H
   obtain ⟨hcz30_0, hcz30_1, hcz30_2, hcz30_3, hcz30_4, hcz30_5⟩ := swc6 BK320.out
   obtain ⟨hfz30_0, hfz30_1, hfz30_2, hfz30_3, hfz30_4, hfz30_5⟩ := swf6 BK320.out
   go_wp2_with (first | (go_at_call 62; (with_reducible refine (impl_isNet.calls kj5 _ _ l0_0 _ _ l0_1 _ _ l0_2 _ _ l0_3 _ _ l0_4 _ _ l0_5 true _ (Kd.C_below HR0_0.out HB.out) HC0_0.out (Kd.C_below HR0_1.out HB.out) HC0_1.out (Kd.C_below HR0_2.out HB.out) HC0_2.out (Kd.C_below HR0_3.out HB.out) HC0_3.out (Kd.C_below HR0_4.out HB.out) HC0_4.out (Kd.C_below HR0_5.out HB.out) HC0_5.out A11.out).mono ?_); rintro e w31 ⟨rfl, hb⟩; replace BK320 := aK BK320 hb; replace HB := aB HB hb; (try clear hb); obtain ⟨hcz32_0, hcz32_1, hcz32_2, hcz32_3, hcz32_4, hcz32_5⟩ := swc6 BK320.out; obtain ⟨hfz32_0, hfz32_1, hfz32_2, hfz32_3, hfz32_4, hfz32_5⟩ := swf6 BK320.out) | (go_at_call 76; (with_reducible refine (impl_isAround.calls _ _ l0_0 _ _ l0_1 _ _ l0_2 _ _ l0_3 _ _ l0_4 _ _ l0_5 _ _ l1 _ _ l2 true _ (Kd.C_below HR0_0.out HB.out) HC0_0.out (Kd.C_below HR0_1.out HB.out) HC0_1.out (Kd.C_below HR0_2.out HB.out) HC0_2.out (Kd.C_below HR0_3.out HB.out) HC0_3.out (Kd.C_below HR0_4.out HB.out) HC0_4.out (Kd.C_below HR0_5.out HB.out) HC0_5.out (Kd.C_below HR1.out HB.out) HC1.out (Kd.C_below HR2.out HB.out) HC2.out A13.out).mono ?_); rintro e w33 ⟨rfl, hb⟩; replace BK320 := aK BK320 hb; replace HB := aB HB hb; (try clear hb)))
   go_ret
   exact ⟨by rfl, by repeat ((with_reducible exact HB.out))⟩
  subst c15
  rw [if_pos rfl] at H
  replace H := bS H
  obtain ⟨t323, A160, H⟩ := H
  replace H : (if t323 = true then (some 0) else (some 1)) = some r := H
  have A16 := aM A160
  clear A160
  by_cases c17 : t323 = true
  ·subst c17
   rw [if_pos rfl] at H
   obtain rfl := Option.some.inj H
   obtain ⟨hcz18_0, hcz18_1, hcz18_2, hcz18_3, hcz18_4, hcz18_5⟩ := swc6 BK320.out
   obtain ⟨hfz18_0, hfz18_1, hfz18_2, hfz18_3, hfz18_4, hfz18_5⟩ := swf6 BK320.out
   go_wp2_with (first | (go_at_call 62; (with_reducible refine (impl_isNet.calls kj5 _ _ l0_0 _ _ l0_1 _ _ l0_2 _ _ l0_3 _ _ l0_4 _ _ l0_5 true _ (Kd.C_below HR0_0.out HB.out) HC0_0.out (Kd.C_below HR0_1.out HB.out) HC0_1.out (Kd.C_below HR0_2.out HB.out) HC0_2.out (Kd.C_below HR0_3.out HB.out) HC0_3.out (Kd.C_below HR0_4.out HB.out) HC0_4.out (Kd.C_below HR0_5.out HB.out) HC0_5.out A11.out).mono ?_); rintro e w19 ⟨rfl, hb⟩; replace BK320 := aK BK320 hb; replace HB := aB HB hb; (try clear hb); obtain ⟨hcz20_0, hcz20_1, hcz20_2, hcz20_3, hcz20_4, hcz20_5⟩ := swc6 BK320.out; obtain ⟨hfz20_0, hfz20_1, hfz20_2, hfz20_3, hfz20_4, hfz20_5⟩ := swf6 BK320.out) | (go_at_call 76; (with_reducible refine (impl_isAround.calls _ _ l0_0 _ _ l0_1 _ _ l0_2 _ _ l0_3 _ _ l0_4 _ _ l0_5 _ _ l1 _ _ l2 true _ (Kd.C_below HR0_0.out HB.out) HC0_0.out (Kd.C_below HR0_1.out HB.out) HC0_1.out (Kd.C_below HR0_2.out HB.out) HC0_2.out (Kd.C_below HR0_3.out HB.out) HC0_3.out (Kd.C_below HR0_4.out HB.out) HC0_4.out (Kd.C_below HR0_5.out HB.out) HC0_5.out (Kd.C_below HR1.out HB.out) HC1.out (Kd.C_below HR2.out HB.out) HC2.out A13.out).mono ?_); rintro e w21 ⟨rfl, hb⟩; replace BK320 := aK BK320 hb; replace HB := aB HB hb; (try clear hb); obtain ⟨hcz22_0, hcz22_1, hcz22_2, hcz22_3, hcz22_4, hcz22_5⟩ := swc6 BK320.out; obtain ⟨hfz22_0, hfz22_1, hfz22_2, hfz22_3, hfz22_4, hfz22_5⟩ := swf6 BK320.out) | (go_at_call 77; (with_reducible refine (impl_areRoutes.calls _ _ l0_0 _ _ l0_1 _ _ l0_2 _ _ l0_3 _ _ l0_4 _ _ l0_5 _ _ l3 true _ (Kd.C_below HR0_0.out HB.out) HC0_0.out (Kd.C_below HR0_1.out HB.out) HC0_1.out (Kd.C_below HR0_2.out HB.out) HC0_2.out (Kd.C_below HR0_3.out HB.out) HC0_3.out (Kd.C_below HR0_4.out HB.out) HC0_4.out (Kd.C_below HR0_5.out HB.out) HC0_5.out (Kd.C_below HR3.out HB.out) HC3.out A16.out).mono ?_); rintro e w23 ⟨rfl, hb⟩; replace BK320 := aK BK320 hb; replace HB := aB HB hb; (try clear hb)))
   go_ret
   exact ⟨by rfl, by repeat ((with_reducible exact HB.out))⟩
  replace c17 := Bool.eq_false_iff.mpr c17
  subst c17
  rw [if_neg (show ¬ (false = true) by decide)] at H
  obtain rfl := Option.some.inj H
  obtain ⟨hcz24_0, hcz24_1, hcz24_2, hcz24_3, hcz24_4, hcz24_5⟩ := swc6 BK320.out
  obtain ⟨hfz24_0, hfz24_1, hfz24_2, hfz24_3, hfz24_4, hfz24_5⟩ := swf6 BK320.out
  go_wp2_with (first | (go_at_call 62; (with_reducible refine (impl_isNet.calls kj5 _ _ l0_0 _ _ l0_1 _ _ l0_2 _ _ l0_3 _ _ l0_4 _ _ l0_5 true _ (Kd.C_below HR0_0.out HB.out) HC0_0.out (Kd.C_below HR0_1.out HB.out) HC0_1.out (Kd.C_below HR0_2.out HB.out) HC0_2.out (Kd.C_below HR0_3.out HB.out) HC0_3.out (Kd.C_below HR0_4.out HB.out) HC0_4.out (Kd.C_below HR0_5.out HB.out) HC0_5.out A11.out).mono ?_); rintro e w25 ⟨rfl, hb⟩; replace BK320 := aK BK320 hb; replace HB := aB HB hb; (try clear hb); obtain ⟨hcz26_0, hcz26_1, hcz26_2, hcz26_3, hcz26_4, hcz26_5⟩ := swc6 BK320.out; obtain ⟨hfz26_0, hfz26_1, hfz26_2, hfz26_3, hfz26_4, hfz26_5⟩ := swf6 BK320.out) | (go_at_call 76; (with_reducible refine (impl_isAround.calls _ _ l0_0 _ _ l0_1 _ _ l0_2 _ _ l0_3 _ _ l0_4 _ _ l0_5 _ _ l1 _ _ l2 true _ (Kd.C_below HR0_0.out HB.out) HC0_0.out (Kd.C_below HR0_1.out HB.out) HC0_1.out (Kd.C_below HR0_2.out HB.out) HC0_2.out (Kd.C_below HR0_3.out HB.out) HC0_3.out (Kd.C_below HR0_4.out HB.out) HC0_4.out (Kd.C_below HR0_5.out HB.out) HC0_5.out (Kd.C_below HR1.out HB.out) HC1.out (Kd.C_below HR2.out HB.out) HC2.out A13.out).mono ?_); rintro e w27 ⟨rfl, hb⟩; replace BK320 := aK BK320 hb; replace HB := aB HB hb; (try clear hb); obtain ⟨hcz28_0, hcz28_1, hcz28_2, hcz28_3, hcz28_4, hcz28_5⟩ := swc6 BK320.out; obtain ⟨hfz28_0, hfz28_1, hfz28_2, hfz28_3, hfz28_4, hfz28_5⟩ := swf6 BK320.out) | (go_at_call 77; (with_reducible refine (impl_areRoutes.calls _ _ l0_0 _ _ l0_1 _ _ l0_2 _ _ l0_3 _ _ l0_4 _ _ l0_5 _ _ l3 false _ (Kd.C_below HR0_0.out HB.out) HC0_0.out (Kd.C_below HR0_1.out HB.out) HC0_1.out (Kd.C_below HR0_2.out HB.out) HC0_2.out (Kd.C_below HR0_3.out HB.out) HC0_3.out (Kd.C_below HR0_4.out HB.out) HC0_4.out (Kd.C_below HR0_5.out HB.out) HC0_5.out (Kd.C_below HR3.out HB.out) HC3.out A16.out).mono ?_); rintro e w29 ⟨rfl, hb⟩; replace BK320 := aK BK320 hb; replace HB := aB HB hb; (try clear hb)))
  go_ret
  exact ⟨by rfl, by repeat ((with_reducible exact HB.out))⟩
end Go.Proofs.Ytgibacfgjmdjdaa.PFnExactIsStable
end
