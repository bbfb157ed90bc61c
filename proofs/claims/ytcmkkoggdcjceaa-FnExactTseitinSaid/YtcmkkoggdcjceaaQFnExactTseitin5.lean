/- FnExactTseitin: for every input the law returns true. The texts that this program's session printed and proved for it, those that the proof uses, laid together. Conditions: the form's own reach alone. -/
import Derived.Test.YtcmkkoggdcjceaaQFnExactTseitin4
import Derived.Deep.Slices
import Derived.ChangeArms
import Derived.SizedLaws
import Derived.Test.YtcmkkoggdcjceaaRows
import Derived.WalkKit
import Derived.ProofKit
import Derived.OpenShut
import Derived.ShutString
import Derived.ChangeOld
import Derived.Below
section
namespace Go.Proofs.Ytcmkkoggdcjceaa.PFnExactTseitin
open Go.RowKit Go.Proofs.YtcmkkoggdcjceaaW.PrintWords Go.Proofs.YtcmkkoggdcjceaaW.PrintLast Go.Proofs.YtcmkkoggdcjceaaW.PrintMore
attribute [local go_sem] max2_int min2_int max_two min_two max_three min_three max_four min_four   -- for this text's walks alone
set_option linter.unusedVariables false
set_option linter.unusedSimpArgs false
section
variable {P : World → Prop} {V V2 : World} {ok S : Nat → Prop}
theorem foot_below (h : Foot P V ok) (hb : Below V.heap.size V V2) : Foot P V2 ok := h.step (fun k _ hlt => hb.block k hlt)
theorem foot_kept (h : Foot P V ok) (hk : Kept V V2 S) (hne : ∀ k, ok k → ¬ S k) : Foot P V2 ok := h.step (fun k hk' hlt => hk.2 k hlt (hne k hk'))
theorem foot_R {α : Type} {d : Kd α} {e base : Nat} {v : Value} {xs : List α} (h : d.R e V base ok v xs) : Foot (fun V => d.R e V base ok v xs) V ok := fun W' hW => Kd.R_step h hW
theorem foot_S {α : Type} {d : Kd α} {e base : Nat} {v : Value} {xs : List α} (h : Kd.S d e V base ok v xs) : Foot (fun V => Kd.S d e V base ok v xs) V ok := fun W' hW => Kd.S_step h hW
theorem foot_blk {g : Nat} {o : Obj} (h : V.heap[g]? = some o) (hok : ok g) : Foot (fun V => V.heap[g]? = some o) V ok := fun W' hW => (hW g hok (blk_lt h)).trans h
theorem foot_and {Q : World → Prop} (h : Foot P V ok) (k : Foot Q V ok) : Foot (fun V => P V ∧ Q V) V ok := fun W' hW => ⟨h W' hW, k W' hW⟩
theorem foot_C {α : Type} {d : Kd α} {A : Option Addr} {n : Nat} {xs : List α} (hd : Kd.Heap d) (h : d.C V A n xs) : Foot (fun V => d.C V A n xs) V (fun k => k < V.heap.size) := Kd.C_F hd h
end
def laws_heldIntS.l0 : Nat → List Int → Int → Int → Option (Int)
 | 0, _, _, _ => none
 | k + 1, x0, x1, x5 => if x5 < (x0.length : Int) then (if 0 ≤ x5 then (if (rd x0 x5) = x1 then (laws_heldIntS.l0 k x0 (wrap64 (x1 + 1)) (wrap64 (x5 + 1))) else (some (-1))) else (none)) else (some x1)
def laws_heldIntS.f (k : Nat) (l0 : List Int) (a1 : Int) : Option (Int) := laws_heldIntS.l0 k l0 a1 0
set_option maxHeartbeats 8000000 in
set_option maxRecDepth 100000 in
theorem laws_heldIntS.calls (k : Nat) (A0 : Option Addr) (c0 : Nat) (l0 : List Int) (a1 : Int) (r : Int) (w : World) (hr0 : Kd.C (Kd.int .i64) w A0 l0.length l0) (hc0 : l0.length ≤ c0) (h : laws_heldIntS.f k l0 a1 = some r) :
  Calls Try.prog 56 #[.slice A0 l0.length c0, .int .i64 a1] w fun e w' => e = .returned (.int .i64 r) ∧ Drawn0 w w' := by
 have HR0 := Aside0.mk hr0
 have HC0 := Aside0.mk hc0
 clear hr0 hc0
 have H : (laws_heldIntS.l0 k l0 a1 0) = some r := h
 clear h
 have H' := Aside0.mk H
 clear H
 go_enter Try.func56, Try.ntmps56
 go_wp2
 go_loopg [1, 5] k (fun kq v1 v5 w' => ∃ (x1_1 : Int) (x5_1 : Int), v1 = .int .i64 x1_1 ∧ v5 = .int .i64 x5_1 ∧ Aside0 (laws_heldIntS.l0 kq l0 x1_1 x5_1 = some r) ∧ Aside0 (kq ≤ k) ∧ Drawn0 w w')
 case atStart => exact ⟨(a1), (0), (by first | rfl | (simp; done) | (simp [*]; done)), (by first | rfl | (simp; done) | (simp [*]; done)), H', ⟨Nat.le_refl _⟩, by repeat (first | exact Drawn0.refl _ | apply Drawn0.step)⟩
 case round =>
  clear H'
  try clear p2
  obtain ⟨x1_1, x5_1, rfl, rfl, HA, HK1, ⟨m1, rfl⟩⟩ := hrel
  cases gk with
  | zero => exact absurd HA.out (by simp [laws_heldIntS.l0])
  | succ k1 =>
   have H := HA.out
   clear HA
   simp only [laws_heldIntS.l0] at H
   by_cases c3 : x5_1 < (l0.length : Int)
   ·rw [if_pos c3] at H
    have c3b0 : decide (x5_1 < (l0.length : Int)) = true := decide_eq_true c3
    clear c3
    by_cases c4 : 0 ≤ x5_1
    ·rw [if_pos c4] at H
     have c4b0 : decide (0 ≤ x5_1) = true := decide_eq_true c4
     clear c4
     by_cases c5 : (rd l0 x5_1) = x1_1
     ·rw [if_pos c5] at H
      have c5b0 : ((rd l0 x5_1) == x1_1) = true := beq_iff_eq.mpr c5
      have c5b1 : ((rd l0 x5_1) != x1_1) = false := bne_eq_false_iff_eq.mpr c5
      clear c5
      have H' := Aside0.mk H
      clear H
      have p260 : 0 ≤ (x5_1 : Int) := of_decide_eq_true (by first | (with_reducible assumption) | assumption)
      have q260 : x5_1 < (l0.length : Int) := of_decide_eq_true (by first | (with_reducible assumption) | assumption)
      obtain ⟨ad260, e260, hx260_0⟩ := Kd.at_int HR0.out x5_1 p260 q260
      cases e260
      replace p260 := eq_true p260
      replace q260 := eq_true q260
      go_wp2
      go_roundg k1
      case measure => have := HK1.out; omega
      case rel => exact ⟨(wrap64 (x1_1 + 1)), (wrap64 (x5_1 + 1)), (by first | rfl | (simp; done) | (simp [*]; done)), (by first | rfl | (simp; done) | (simp [*]; done)), H', ⟨by have := HK1.out; omega⟩, by repeat (first | exact Drawn0.refl _ | apply Drawn0.step)⟩
     ·rw [if_neg c5] at H
      have c5b0 : ((rd l0 x5_1) == x1_1) = false := beq_eq_false_iff_ne.mpr c5
      have c5b1 : ((rd l0 x5_1) != x1_1) = true := bne_iff_ne.mpr c5
      obtain rfl := Option.some.inj H
      have p260 : 0 ≤ (x5_1 : Int) := of_decide_eq_true (by first | (with_reducible assumption) | assumption)
      have q260 : x5_1 < (l0.length : Int) := of_decide_eq_true (by first | (with_reducible assumption) | assumption)
      obtain ⟨ad260, e260, hx260_0⟩ := Kd.at_int HR0.out x5_1 p260 q260
      cases e260
      replace p260 := eq_true p260
      replace q260 := eq_true q260
      go_wp2
      go_ret
      exact ⟨by first | rfl | (simp; done) | (simp [*]; done), by repeat (first | exact Drawn0.refl _ | apply Drawn0.step)⟩
    ·rw [if_neg c4] at H
     exact absurd H (by simp)
   ·rw [if_neg c3] at H
    have c3b0 : decide (x5_1 < (l0.length : Int)) = false := decide_eq_false c3
    clear c3
    obtain rfl := Option.some.inj H
    go_wp2
    go_ret
    exact ⟨by first | rfl | (simp; done) | (simp [*]; done), by repeat (first | exact Drawn0.refl _ | apply Drawn0.step)⟩
def laws_heldIntSS.l0 : Nat → List (List Int) → Int → Int → Option (Int)
 | 0, _, _, _ => none
 | k + 1, x0, x1, x5 => if x5 < (x0.length : Int) then (if 0 ≤ x5 then ((laws_heldIntS.f k (rd_L3 x0 x5) x1).bind fun t262 => (if t262 < 0 then (some (-1)) else (laws_heldIntSS.l0 k x0 t262 (wrap64 (x5 + 1))))) else (none)) else (some x1)
def laws_heldIntSS.f (k : Nat) (l0 : List (List Int)) (a1 : Int) : Option (Int) := laws_heldIntSS.l0 k l0 a1 0
set_option maxHeartbeats 8000000 in
set_option maxRecDepth 100000 in
theorem laws_heldIntSS.calls (k : Nat) (A0 : Option Addr) (c0 : Nat) (l0 : List (List Int)) (a1 : Int) (r : Int) (w : World) (hr0 : Kd.C (Kd.slice 3 (Kd.int .i64)) w A0 l0.length l0) (hc0 : l0.length ≤ c0) (h : laws_heldIntSS.f k l0 a1 = some r) :
  Calls Try.prog 98 #[.slice A0 l0.length c0, .int .i64 a1] w fun e w' => e = .returned (.int .i64 r) ∧ Drawn0 w w' := by
 have HR0 := Aside0.mk hr0
 have HC0 := Aside0.mk hc0
 clear hr0 hc0
 have H : (laws_heldIntSS.l0 k l0 a1 0) = some r := h
 clear h
 have H' := Aside0.mk H
 clear H
 go_enter Try.func98, Try.ntmps98
 go_wp2
 go_loopg [1, 5] k (fun kq v1 v5 w' => ∃ (x1_1 : Int) (x5_1 : Int), v1 = .int .i64 x1_1 ∧ v5 = .int .i64 x5_1 ∧ Aside0 (laws_heldIntSS.l0 kq l0 x1_1 x5_1 = some r) ∧ Aside0 (kq ≤ k) ∧ Drawn0 w w')
 case atStart => exact ⟨(a1), (0), (by first | rfl | (simp; done) | (simp [*]; done)), (by first | rfl | (simp; done) | (simp [*]; done)), H', ⟨Nat.le_refl _⟩, by repeat (first | exact Drawn0.refl _ | apply Drawn0.step)⟩
 case round =>
  clear H'
  try clear p2
  obtain ⟨x1_1, x5_1, rfl, rfl, HA, HK1, ⟨m1, rfl⟩⟩ := hrel
  cases gk with
  | zero => exact absurd HA.out (by simp [laws_heldIntSS.l0])
  | succ k1 =>
   have H := HA.out
   clear HA
   simp only [laws_heldIntSS.l0] at H
   by_cases c3 : x5_1 < (l0.length : Int)
   ·rw [if_pos c3] at H
    have c3b0 : decide (x5_1 < (l0.length : Int)) = true := decide_eq_true c3
    clear c3
    by_cases c4 : 0 ≤ x5_1
    ·rw [if_pos c4] at H
     have c4b0 : decide (0 ≤ x5_1) = true := decide_eq_true c4
     clear c4
     replace H := Option.bind_eq_some_iff.mp H
     obtain ⟨t262, A50, H⟩ := H
     replace H : (if t262 < 0 then (some (-1)) else (laws_heldIntSS.l0 k1 l0 t262 (wrap64 (x5_1 + 1)))) = some r := H
     have A5 := Aside0.mk A50
     clear A50
     by_cases c6 : t262 < 0
     ·rw [if_pos c6] at H
      have c6b0 : decide (t262 < 0) = true := decide_eq_true c6
      clear c6
      obtain rfl := Option.some.inj H
      have p261 : 0 ≤ (x5_1 : Int) := of_decide_eq_true (by first | (with_reducible assumption) | assumption)
      have q261 : x5_1 < (l0.length : Int) := of_decide_eq_true (by first | (with_reducible assumption) | assumption)
      obtain ⟨ad261, A261_0, c261_0, e261, hx261_0, hl261_0, hi261_0⟩ := at_L3 HR0.out x5_1 p261 q261
      cases e261
      have HR261_0 := Aside0.mk hi261_0
      have HC261_0 := Aside0.mk hl261_0
      clear hi261_0 hl261_0
      replace p261 := eq_true p261
      replace q261 := eq_true q261
      go_wp2_with (first | ((with_reducible refine gate_callee (f := 56) rfl ?_); refine goesL_ (some 17) rfl rfl Try.func56 (by kernel_rfl) rfl #[.slice A261_0 (rd_L3 l0 x5_1).length c261_0, .int .i64 x1_1] rfl (by (try simp only [List.map_toArray, List.map_cons, List.map_nil]); first | done | rfl | (simp only [List.length_drop, List.length_take]; rfl)) ?_; (with_reducible refine (laws_heldIntS.calls k1 _ _ (rd_L3 l0 x5_1) x1_1 t262 _ ?side1 ?side2 A5.out).mono ?_); (case side1 => repeat (first | exact HR261_0.out | (with_reducible refine Kd.C_alloc ?_ _) | (with_reducible refine Kd.C_drewN ?_ _) | (with_reducible refine Kd.C_drew ?_))); (case side2 => exact HC261_0.out); rintro e w' ⟨rfl, ⟨nd, rfl⟩⟩; refine ⟨_, rfl, ?_⟩))
      go_ret
      exact ⟨by first | rfl | (simp; done) | (simp [*]; done), by repeat (first | exact Drawn0.refl _ | apply Drawn0.step)⟩
     ·rw [if_neg c6] at H
      have c6b0 : decide (t262 < 0) = false := decide_eq_false c6
      clear c6
      have H' := Aside0.mk H
      clear H
      have p261 : 0 ≤ (x5_1 : Int) := of_decide_eq_true (by first | (with_reducible assumption) | assumption)
      have q261 : x5_1 < (l0.length : Int) := of_decide_eq_true (by first | (with_reducible assumption) | assumption)
      obtain ⟨ad261, A261_0, c261_0, e261, hx261_0, hl261_0, hi261_0⟩ := at_L3 HR0.out x5_1 p261 q261
      cases e261
      have HR261_0 := Aside0.mk hi261_0
      have HC261_0 := Aside0.mk hl261_0
      clear hi261_0 hl261_0
      replace p261 := eq_true p261
      replace q261 := eq_true q261
      go_wp2_with (first | ((with_reducible refine gate_callee (f := 56) rfl ?_); refine goesL_ (some 17) rfl rfl Try.func56 (by kernel_rfl) rfl #[.slice A261_0 (rd_L3 l0 x5_1).length c261_0, .int .i64 x1_1] rfl (by (try simp only [List.map_toArray, List.map_cons, List.map_nil]); first | done | rfl | (simp only [List.length_drop, List.length_take]; rfl)) ?_; (with_reducible refine (laws_heldIntS.calls k1 _ _ (rd_L3 l0 x5_1) x1_1 t262 _ ?side1 ?side2 A5.out).mono ?_); (case side1 => repeat (first | exact HR261_0.out | (with_reducible refine Kd.C_alloc ?_ _) | (with_reducible refine Kd.C_drewN ?_ _) | (with_reducible refine Kd.C_drew ?_))); (case side2 => exact HC261_0.out); rintro e w' ⟨rfl, ⟨nd, rfl⟩⟩; refine ⟨_, rfl, ?_⟩))
      go_roundg k1
      case measure => have := HK1.out; omega
      case rel => exact ⟨(t262), (wrap64 (x5_1 + 1)), (by first | rfl | (simp; done) | (simp [*]; done)), (by first | rfl | (simp; done) | (simp [*]; done)), H', ⟨by have := HK1.out; omega⟩, by repeat (first | exact Drawn0.refl _ | apply Drawn0.step)⟩
    ·rw [if_neg c4] at H
     exact absurd H (by simp)
   ·rw [if_neg c3] at H
    have c3b0 : decide (x5_1 < (l0.length : Int)) = false := decide_eq_false c3
    clear c3
    obtain rfl := Option.some.inj H
    go_wp2
    go_ret
    exact ⟨by first | rfl | (simp; done) | (simp [*]; done), by repeat (first | exact Drawn0.refl _ | apply Drawn0.step)⟩
def laws_heldCnf.f (k : Nat) (a0_0 : Int) (l0_1 : List (List Int)) (a1 : Int) : Option (Int) := (laws_heldIntSS.f k l0_1 a1).bind fun t264 => (if t264 < 0 then (some (-1)) else (some t264))
set_option maxHeartbeats 8000000 in
set_option maxRecDepth 100000 in
theorem laws_heldCnf.calls (k : Nat) (a0_0 : Int) (A0_1 : Option Addr) (c0_1 : Nat) (l0_1 : List (List Int)) (a1 : Int) (r : Int) (w : World) (hr0_1 : Kd.C (Kd.slice 3 (Kd.int .i64)) w A0_1 l0_1.length l0_1) (hc0_1 : l0_1.length ≤ c0_1) (h : laws_heldCnf.f k a0_0 l0_1 a1 = some r) :
  Calls Try.prog 45 #[.agg #[.int .i64 a0_0, .slice A0_1 l0_1.length c0_1], .int .i64 a1] w fun e w' => e = .returned (.int .i64 r) ∧ Below w.heap.size w w' := by
 have hu67 := Try.underlying67
 have HR0_1 := Aside0.mk hr0_1
 have HC0_1 := Aside0.mk hc0_1
 clear hr0_1 hc0_1
 have HB := Aside0.mk (Below.refl w.heap.size w)
 have H : ((laws_heldIntSS.f k l0_1 a1).bind fun t264 => (if t264 < 0 then (some (-1)) else (some t264))) = some r := h
 clear h
 replace H := Option.bind_eq_some_iff.mp H
 obtain ⟨t264, A30, H⟩ := H
 replace H : (if t264 < 0 then (some (-1)) else (some t264)) = some r := H
 have A3 := Aside0.mk A30
 clear A30
 by_cases c4 : t264 < 0
 ·rw [if_pos c4] at H
  have c4b0 : decide (t264 < 0) = true := decide_eq_true c4
  clear c4
  obtain rfl := Option.some.inj H
  go_enter Try.func45, Try.ntmps45
  go_wp2_with (first | ((with_reducible refine gate_dst (N := 2) rfl ?_); refine box_event ?hg (N := 2) ?hd (cs := #[.int .i64 a0_0, .slice A0_1 l0_1.length c0_1]) (t := 67) ?hr ?_; (case hd => rfl); (case hg => rfl); (case hr => first | (go_simp; done) | (go_simp; rfl)); intro gb263 hg w5 hbox hb; have n0_ := Aside0.mk (below_step (by repeat (first | (with_reducible first | exact HB.out | apply below_alloc | apply pw_below_drewN | apply below_drew1) | exact HB.out)) hb); have n1_ := Aside0.mk (hbox); have n2_ := Aside0.mk ((by rw [hg]; exact (below_size (by repeat (first | (with_reducible first | exact HB.out | apply below_alloc | apply pw_below_drewN | apply below_drew1) | exact HB.out))) : w.heap.size ≤ gb263)); have n3_ := Aside0.mk ((by rw [hg]; exact (below_size (by repeat (first | (with_reducible first | exact HB.out | apply below_alloc | apply pw_below_drewN | apply below_drew1) | exact HB.out))) : w.heap.size ≤ gb263)); clear HB; have HB := n0_; have BK263 := n1_; have GW263 := n2_; have GE263 := n3_; clear n0_ n1_ n2_ n3_; clear hb hbox hg; have hcz6_0 : w5.cell? ⟨gb263, 0, none⟩ = some (.int .i64 a0_0) := (blk_cell BK263.out 0).trans rfl; have hcz6_1 : w5.cell? ⟨gb263, 1, none⟩ = some (.slice A0_1 l0_1.length c0_1) := (blk_cell BK263.out 1).trans rfl; have hfz6_0 := blk_frozen BK263.out 0; have hfz6_1 := blk_frozen BK263.out 1) | ((with_reducible refine gate_callee (f := 98) rfl ?_); refine goesL_ (some 8) rfl rfl Try.func98 (by kernel_rfl) rfl #[.slice A0_1 l0_1.length c0_1, .int .i64 a1] rfl (by (try simp only [List.map_toArray, List.map_cons, List.map_nil]); first | done | rfl | (simp only [List.length_drop, List.length_take]; rfl)) ?_; (with_reducible refine (laws_heldIntSS.calls k _ _ l0_1 a1 t264 _ ?side1 ?side2 A3.out).mono ?_); (case side1 => repeat (first | exact (Kd.C_below HR0_1.out HB.out) | (with_reducible refine Kd.C_alloc ?_ _) | (with_reducible refine Kd.C_drewN ?_ _) | (with_reducible refine Kd.C_drew ?_))); (case side2 => exact HC0_1.out); rintro e w' ⟨rfl, ⟨nd, rfl⟩⟩; refine ⟨_, rfl, ?_⟩))
  go_ret
  exact ⟨by first | rfl | (simp [errW_none, errW_some] <;> rfl) | (simp [*, errW_none, errW_some] <;> rfl), by repeat (first | (with_reducible first | exact HB.out | apply below_alloc | apply pw_below_drewN | apply below_drew1 | refine below_set ?_ GE263.out) | exact HB.out)⟩
 ·rw [if_neg c4] at H
  have c4b0 : decide (t264 < 0) = false := decide_eq_false c4
  clear c4
  obtain rfl := Option.some.inj H
  go_enter Try.func45, Try.ntmps45
  go_wp2_with (first | ((with_reducible refine gate_dst (N := 2) rfl ?_); refine box_event ?hg (N := 2) ?hd (cs := #[.int .i64 a0_0, .slice A0_1 l0_1.length c0_1]) (t := 67) ?hr ?_; (case hd => rfl); (case hg => rfl); (case hr => first | (go_simp; done) | (go_simp; rfl)); intro gb263 hg w7 hbox hb; have n0_ := Aside0.mk (below_step (by repeat (first | (with_reducible first | exact HB.out | apply below_alloc | apply pw_below_drewN | apply below_drew1) | exact HB.out)) hb); have n1_ := Aside0.mk (hbox); have n2_ := Aside0.mk ((by rw [hg]; exact (below_size (by repeat (first | (with_reducible first | exact HB.out | apply below_alloc | apply pw_below_drewN | apply below_drew1) | exact HB.out))) : w.heap.size ≤ gb263)); have n3_ := Aside0.mk ((by rw [hg]; exact (below_size (by repeat (first | (with_reducible first | exact HB.out | apply below_alloc | apply pw_below_drewN | apply below_drew1) | exact HB.out))) : w.heap.size ≤ gb263)); clear HB; have HB := n0_; have BK263 := n1_; have GW263 := n2_; have GE263 := n3_; clear n0_ n1_ n2_ n3_; clear hb hbox hg; have hcz8_0 : w7.cell? ⟨gb263, 0, none⟩ = some (.int .i64 a0_0) := (blk_cell BK263.out 0).trans rfl; have hcz8_1 : w7.cell? ⟨gb263, 1, none⟩ = some (.slice A0_1 l0_1.length c0_1) := (blk_cell BK263.out 1).trans rfl; have hfz8_0 := blk_frozen BK263.out 0; have hfz8_1 := blk_frozen BK263.out 1) | ((with_reducible refine gate_callee (f := 98) rfl ?_); refine goesL_ (some 8) rfl rfl Try.func98 (by kernel_rfl) rfl #[.slice A0_1 l0_1.length c0_1, .int .i64 a1] rfl (by (try simp only [List.map_toArray, List.map_cons, List.map_nil]); first | done | rfl | (simp only [List.length_drop, List.length_take]; rfl)) ?_; (with_reducible refine (laws_heldIntSS.calls k _ _ l0_1 a1 t264 _ ?side1 ?side2 A3.out).mono ?_); (case side1 => repeat (first | exact (Kd.C_below HR0_1.out HB.out) | (with_reducible refine Kd.C_alloc ?_ _) | (with_reducible refine Kd.C_drewN ?_ _) | (with_reducible refine Kd.C_drew ?_))); (case side2 => exact HC0_1.out); rintro e w' ⟨rfl, ⟨nd, rfl⟩⟩; refine ⟨_, rfl, ?_⟩))
  go_ret
  exact ⟨by first | rfl | (simp [errW_none, errW_some] <;> rfl) | (simp [*, errW_none, errW_some] <;> rfl), by repeat (first | (with_reducible first | exact HB.out | apply below_alloc | apply pw_below_drewN | apply below_drew1 | refine below_set ?_ GE263.out) | exact HB.out)⟩
def markSSv : Nat → List (List Int) → Int → Nat → Option (Int × List (List Int))
 | 0, _, _, _ => none
 | n + 1, ys, b, kk => if kk < ys.length then (laws_markIntS.f ((ys.getD kk []).length + 1) (ys.getD kk []) b).bind fun p => if p.2.length = (ys.getD kk []).length then markSSv n (ys.set kk p.2) p.1 (kk + 1) else none else some (b, ys)
def WRc (w0 : World) (g : Nat) (f : Nat → Nat) (vs : Nat → Value) (P : Nat → Prop) (l : List (List Int)) (V : World) : Prop :=
 ∀ j : Nat, j < l.length → V.cell? ⟨g, j, none⟩ = some (vs j) ∧ (∃ A c, vs j = .slice A (l.getD j []).length c) ∧ Kd.R (Kd.int .i64) 3 V w0.heap.size (fun k => (P k ∧ k ≠ g) ∧ f k = j) (vs j) (l.getD j [])
theorem WRc.of {w0 V : World} {P : Nat → Prop} {g n cap : Nat} {l : List (List Int)} (h : Kd.S (Kd.slice 3 (Kd.int .i64)) 40 V w0.heap.size P (.slice (some ⟨g, 0, none⟩) n cap) l) : ∃ f vs, WRc w0 g f vs P l V := by
 obtain ⟨f, HR⟩ := h
 have hn := (Kd.R_reads' HR).1
 rw [List.length_zipIdx] at hn
 have key : ∀ j : Nat, ∃ v, j < l.length → V.cell? ⟨g, j, none⟩ = some v ∧ (∃ A c, v = .slice A (l.getD j []).length c) ∧ Kd.R (Kd.int .i64) 3 V w0.heap.size (fun k => (P k ∧ k ≠ g) ∧ f k = j) v (l.getD j []) := by
  intro j
  by_cases hj : j < l.length
  ·obtain ⟨c, hc, hM, hcell, _⟩ := Kd.R_elem HR (([], 0) : List Int × Nat) (j : Int) (by omega) (by omega)
   rw [Int.toNat_natCast] at hM hcell
   have he : l.zipIdx.getD j (([], 0) : List Int × Nat) = (l.getD j [], j) := by
    rw [List.getD_eq_getElem?_getD, List.getElem?_zipIdx, List.getElem?_eq_getElem hj, Nat.zero_add, List.getD_eq_getElem?_getD, List.getElem?_eq_getElem hj]
    rfl
   rw [he] at hM
   obtain ⟨v, rfl, hR⟩ := hM
   obtain ⟨A, cc, ev⟩ := Kd.R_slice hR
   refine ⟨v, fun _ => ⟨?_, ⟨A, cc, ev⟩, hR⟩⟩
   have h9 : V.cell? ⟨g, j * 1 + 0, none⟩ = some v := hcell 0 v rfl
   rwa [show j * 1 + 0 = j by omega] at h9
  ·exact ⟨undef, fun h => absurd h hj⟩
 exact ⟨f, fun j => (key j).choose, fun j hj => (key j).choose_spec hj⟩
theorem WRc.kept {w0 V V2 : World} {g : Nat} {f : Nat → Nat} {vs : Nat → Value} {P : Nat → Prop} {l : List (List Int)} (h : WRc w0 g f vs P l V) (i : Nat) (xs : List Int) (hl : xs.length = (l.getD i []).length) (hk : Kept V V2 (fun k => (P k ∧ k ≠ g) ∧ f k = i)) (hR : Kd.R (Kd.int .i64) 3 V2 w0.heap.size (fun k => (P k ∧ k ≠ g) ∧ f k = i) (vs i) xs) : WRc w0 g f vs P (l.set i xs) V2 := by
 intro j hj
 rw [List.length_set] at hj
 obtain ⟨h1, h2, h4⟩ := h j hj
 by_cases e : j = i
 ·subst e
  have hg : (l.set j xs).getD j [] = xs := by rw [List.getD_eq_getElem?_getD, List.getElem?_set_self hj]; rfl
  rw [hg]
  exact ⟨cell_kept h1 hk (fun hg => hg.1.2 rfl), by rw [hl]; exact h2, hR⟩
 ·have hg : (l.set i xs).getD j [] = l.getD j [] := by rw [List.getD_eq_getElem?_getD, List.getElem?_set_ne (fun h => e h.symm), ← List.getD_eq_getElem?_getD]
  rw [hg]
  exact ⟨cell_kept h1 hk (fun hg => hg.1.2 rfl), h2, Kd.R_kept h4 hk (fun k hk1 hk2 => e (hk1.2.symm.trans hk2.2))⟩
theorem WRc.C {w0 V : World} {g : Nat} {f : Nat → Nat} {vs : Nat → Value} {P : Nat → Prop} {l : List (List Int)} (h : WRc w0 g f vs P l V) (hm : l.length ≤ 9223372036854775807) : Kd.C (Kd.slice 3 (Kd.int .i64)) V (some ⟨g, 0, none⟩) l.length l := by
 refine ⟨rfl, hm, fun _ => ⟨_, rfl, fun j p hj => ?_⟩⟩
 have hlt : j < l.length := (List.getElem?_eq_some_iff.1 hj).1
 obtain ⟨h1, _, h4⟩ := h j hlt
 have hp : l.getD j [] = p := by rw [List.getD_eq_getElem?_getD, hj]; rfl
 rw [hp] at h4
 obtain ⟨A, c, ev, hl, hC⟩ := Kd.R_reads h4
 refine ⟨[vs j], rfl, ⟨A, c, by rw [ev], hl, hC⟩, fun i u hu => ?_⟩
 match i, hu with
 | 0, hu =>
  obtain rfl := Option.some.inj hu
  show V.cell? (Addr.add ⟨g, 0, none⟩ (j * 1 + 0)) = _
  rw [show (Addr.add ⟨g, 0, none⟩ (j * 1 + 0) : Addr) = ⟨g, j, none⟩ from by rw [add_at]; simp]
  exact h1
 | i + 1, hu => simp at hu
set_option maxHeartbeats 800000 in
set_option maxRecDepth 100000 in
theorem markSS_val (n : Nat) (r1 : Int) (r2 : List (List Int)) (P : Nat → Prop) (u : Value) (l : List (List Int)) (a : Int) (w0 w : World) (hB : Below w0.heap.size w0 w) (hS : Kd.S (Kd.slice 3 (Kd.int .i64)) 40 w w0.heap.size P u l) (h : markSSv n l a 0 = some (r1, r2)) :
  Calls Try.prog 97 #[u, .int .i64 a] w fun e w' => e = .returned (.int .i64 r1) ∧ (∃ A c, u = .slice A r2.length c ∧ r2.length ≤ c ∧ Kd.C (Kd.slice 3 (Kd.int .i64)) w' A r2.length r2) ∧ Below w0.heap.size w0 w' ∧ Kept w w' P := by
 obtain ⟨A, c, eu, hlc, hC⟩ := Kd.R_reads (Kd.S_R hS)
 subst eu
 have hmax : l.length ≤ 9223372036854775807 := Kd.C_max hC
 have hform : 0 < l.length → ∃ g, A = some ⟨g, 0, none⟩ := fun hp => by
  obtain ⟨g, cap, e, _⟩ := Kd.R_form (Kd.S_R hS) hp
  cases e
  exact ⟨g, rfl⟩
 have hw : ∀ g, A = some ⟨g, 0, none⟩ → ∃ f vs, WRc w0 g f vs P l w := fun g e => by subst e; exact WRc.of hS
 obtain ⟨f, vs, hWR⟩ : ∃ f vs, ∀ g, A = some ⟨g, 0, none⟩ → WRc w0 g f vs P l w := by
  rcases Nat.eq_zero_or_pos l.length with hz | hp
  ·exact ⟨fun _ => 0, fun _ => undef, fun g e j hj => by omega⟩
  ·obtain ⟨g, e⟩ := hform hp
   obtain ⟨f, vs, h⟩ := hw g e
   exact ⟨f, vs, fun g2 e2 => by rw [e] at e2; cases e2; exact h⟩
 have HW := Aside0.mk hWR
 have HF := Aside0.mk hform
 have HLC := Aside0.mk hlc
 have HB := Aside0.mk hB
 have HK := Aside0.mk (Kept.refl w P)
 have H1 := Aside0.mk h
 clear hS hC hB hw hWR hform h hlc
 go_enter Try.func97, Try.ntmps97
 go_wp2
 go_loopg [1, 5] n (fun gg v1 v5 wr => ∃ (b : Int) (kk : Nat) (ys : List (List Int)), v1 = .int .i64 b ∧ v5 = .int .i64 kk ∧ kk ≤ l.length ∧ ys.length = l.length ∧ Aside0 (markSSv gg ys b kk = some (r1, r2)) ∧ Aside0 (∀ g, A = some ⟨g, 0, none⟩ → WRc w0 g f vs P ys wr) ∧ Aside0 (Below w0.heap.size w0 wr) ∧ Aside0 (Kept w wr P))
 case atStart => exact ⟨a, 0, l, rfl, rfl, Nat.zero_le _, rfl, H1, HW, HB, HK⟩
 case round =>
  clear HW HB HK H1
  obtain ⟨b, kk, ys, rfl, rfl, hk, hyl, H1, HW, HB, HK⟩ := hrel
  have h1 := H1.out
  clear H1
  match gk, h1 with
  | 0, h1 => cases h1
  | gg + 1, h1 =>
  rw [markSSv] at h1
  by_cases hlt : kk < l.length
  ·have hltz : (kk : Int) < (l.length : Int) := by omega
   have h0z : (0 : Int) ≤ (kk : Int) := by omega
   rw [if_pos (by omega)] at h1
   replace h1 := Option.bind_eq_some_iff.1 h1
   obtain ⟨⟨b2, xs2⟩, hrun, h1⟩ := h1
   simp only at h1
   by_cases hxl : xs2.length = (ys.getD kk []).length
   ·rw [if_pos hxl] at h1
    obtain ⟨g, ea⟩ := HF.out (by omega)
    subst ea
    have hWR := HW.out g rfl
    obtain ⟨hx, ⟨A2, c2, ev⟩, hR⟩ := hWR kk (by omega)
    have hcall := laws_markIntS.calls ((ys.getD kk []).length + 1) (fun k => (P k ∧ k ≠ g) ∧ f k = kk) (vs kk) (ys.getD kk []) b b2 xs2 w0 wr HB.out hR hrun
    have ew : IntKind.i64.wrap ((kk : Int) + 1) = ((kk + 1 : Nat) : Int) := IntWalk.i64_in _ (by omega)
    have HWR := Aside0.mk hWR
    have HXL := Aside0.mk hxl
    have H1 := Aside0.mk h1
    have HYL := Aside0.mk hyl
    obtain ⟨n2, hn2⟩ : ∃ n2, (ys.getD kk []).length = n2 := ⟨_, rfl⟩
    rw [hn2] at ev
    have HEV := Aside0.mk ev
    rw [ev] at hx hcall
    clear hWR hR hrun h1 HW ev hxl hn2 hyl
    go_wp2_with (go_at_call 26; refine hcall.mono ?_; rintro e w3 ⟨rfl, hR3, hB3, hK3⟩; clear hcall)
    have n1_ := Aside0.mk (fun (g2 : Nat) (e2 : some (⟨g, 0, none⟩ : Addr) = some ⟨g2, 0, none⟩) => show WRc w0 g2 f vs P (ys.set kk xs2) w3 from by
     cases e2
     refine HWR.out.kept kk xs2 HXL.out hK3 ?_
     rw [HEV.out]
     exact Kd.R_reok rfl hR3 (fun k hk2 => by
      obtain ⟨_, _, h4⟩ := HWR.out kk (by rw [HYL.out]; exact hlt)
      rw [HEV.out] at h4
      exact h4.1 k hk2))
    have n2_ := Aside0.mk (HK.out.then_ hK3 (fun k hk2 => .inl hk2.1.1))
    have n3_ := Aside0.mk hB3
    clear hR3 hB3 hK3 HB HK HWR
    go_roundg gg
    case measure => omega
    case rel => exact ⟨b2, kk + 1, ys.set kk xs2, rfl, rfl, by omega, by rw [List.length_set]; exact HYL.out, H1, n1_, n3_, n2_⟩
   ·rw [if_neg hxl] at h1
    cases h1
  ·obtain rfl : kk = l.length := by omega
   rw [if_neg (by omega)] at h1
   obtain ⟨rfl, rfl⟩ := Prod.mk.inj (Option.some.inj h1)
   clear h1
   have HC := Aside0.mk (show ∃ A_ c_, Value.slice A l.length c = .slice A_ ys.length c_ ∧ ys.length ≤ c_ ∧ Kd.C (Kd.slice 3 (Kd.int .i64)) wr A_ ys.length ys from by
    refine ⟨A, c, by rw [hyl], by rw [hyl]; exact HLC.out, ?_⟩
    rcases Nat.eq_zero_or_pos l.length with hz | hp
    ·obtain rfl : ys = [] := List.length_eq_zero_iff.1 (by omega)
     exact ⟨rfl, by decide, fun h => absurd h (by decide)⟩
    ·obtain ⟨g, ea⟩ := HF.out hp
     subst ea
     exact (HW.out g rfl).C (by omega))
   go_wp2
   go_ret
   exact ⟨rfl, HC.out, HB.out, HK.out⟩
set_option maxHeartbeats 800000 in
theorem markCnf_val (n : Nat) (r1 : Int) (r2 : List (List Int)) (P : Nat → Prop) (u : Value) (l : List (List Int)) (a0 a : Int) (w0 w : World) (hB : Below w0.heap.size w0 w) (hS : Kd.S (Kd.slice 3 (Kd.int .i64)) 40 w w0.heap.size P u l) (h : markSSv n l a 0 = some (r1, r2)) :
  Calls Try.prog 44 #[.agg #[.int .i64 a0, u], .int .i64 a] w fun e w' => e = .returned (.int .i64 r1) ∧ (∃ A c, u = .slice A r2.length c ∧ r2.length ≤ c ∧ Kd.C (Kd.slice 3 (Kd.int .i64)) w' A r2.length r2) ∧ Below w0.heap.size w0 w' ∧ Kept w w' P := by
 have hu_Cnf := Try.underlying67
 obtain ⟨A, c, eu, hlc, hC⟩ := Kd.R_reads (Kd.S_R hS)
 subst eu
 have hb1 : Below w.heap.size w (w.alloc (.cells #[.int .i64 a0, .slice A l.length c] 67)) := (Below.refl _ _).alloc (Nat.le_refl _) _
 have hW : (w.alloc (.cells #[.int .i64 a0, .slice A l.length c] 67)).heap[w.heap.size]? = some (.cells #[.int .i64 a0, .slice A l.length c] 67 (0, 0)) := by
  show (w.heap.push _)[w.heap.size]? = _
  simp
 obtain ⟨W1, hW1, BX, HB1⟩ : ∃ W1, w.alloc (.cells #[.int .i64 a0, .slice A l.length c] 67) = W1 ∧ W1.heap[w.heap.size]? = some (.cells #[.int .i64 a0, .slice A l.length c] 67 (0, 0)) ∧ Below w.heap.size w W1 := ⟨_, rfl, hW, hb1⟩
 have hcall := markSS_val n r1 r2 P (.slice A l.length c) l a w0 W1 (hB.trans (HB1.mono hB.size)) (Kd.S_step hS (fun k _ hk => HB1.block k hk)) h
 have hx1 : W1.cell? ⟨w.heap.size, 1, none⟩ = some (.slice A l.length c) := (blk_cell BX 1).trans rfl
 have HK := Aside0.mk (Kept.of_below HB1 P)
 have HW1 := Aside0.mk hW1
 clear hS hC h hb1 hW hW1 BX HB1 hB
 go_enter Try.func44, Try.ntmps44
 go_upto_region 1 with fail
 rw [HW1.out]
 go_wp2_with (go_at_call 97; refine hcall.mono ?_; rintro e w3 ⟨rfl, hC3, hB3, hK3⟩)
 go_ret
 exact ⟨rfl, hC3, hB3, HK.out.then_ hK3 (fun k hk => .inl hk)⟩
def lawT_T : Bool × List (List Nat × List Nat) := (true, [([], []), ([], []), ([1], [1]), ([0, 2, 2], [0, 2]), ([3], [3])])
def lawT_B : List Nat := [0, 0, 2, 7, 15]
theorem lawT_tab : rtab .any (opsOf Try.f8 10) = lawT_T := by kernel_rfl
theorem lawT_bits : waitsOk lawT_T.2 lawT_B = true := by kernel_rfl
theorem box2 {t : Nat} {W wb : World} {gb : Nat} {a v : Value} (hg : gb = W.heap.size) (hbox : wb.heap[gb]? = some (.cells #[.int .i64 0, .slice none 0 0] t (0, 0))) (hb : Below W.heap.size W wb) : ((wb.setCell ⟨gb, 0, none⟩ a).setCell ⟨gb, 1, none⟩ v).heap[gb]? = some (.cells #[a, v] t (0, 0)) ∧ Below W.heap.size W ((wb.setCell ⟨gb, 0, none⟩ a).setCell ⟨gb, 1, none⟩ v) :=
 ⟨blk_put (cs := #[a, .slice none 0 0]) (blk_put hbox 0 a rfl) 1 v rfl, below_set (below_set hb (Nat.le_of_eq hg.symm)) (Nat.le_of_eq hg.symm)⟩
theorem heldC_at (kf : Nat) (s1 : Int) (A7 : Option Addr) (c7 n : Nat) (A : Option Addr) (c : Nat) (m2 : List (List Int)) (a r : Int) (w : World) (he : Value.slice A7 n c7 = .slice A m2.length c) (hl : m2.length ≤ c) (hC : Kd.C (Kd.slice 3 (Kd.int .i64)) w A m2.length m2) (h : laws_heldCnf.f kf s1 m2 a = some r) : Calls Try.prog 45 #[.agg #[.int .i64 s1, .slice A7 n c7], .int .i64 a] w fun e w' => e = .returned (.int .i64 r) ∧ Below w.heap.size w w' := by
 rw [he]
 exact laws_heldCnf.calls kf s1 A c m2 a r w hC hl h
def laws_FnExactTseitin.f (kf : Nat) (a0_0 : Int) (l0_1 : List S133) (a1 : Int) : Option Bool :=
 (laws_szAig.f a0_0 l0_1 1048576).bind fun t => if t < 0 then some true else
 (laws_toAig.f kf a0_0 l0_1).bind fun (q1, x) => (spec_Tseitin.f kf a0_0 x a1).bind fun (s1, s2, s3) => (impl_Tseitin.f kf a0_0 x a1).bind fun g => (laws_eqCnf.f kf s1 s2 s1 s2).bind fun b1 => (laws_eqAig.f kf a0_0 x a0_0 x).bind fun b2 => (laws_markAig.f kf a0_0 x 1).bind fun (p1, p2) => (markSSv (s2.length + 1) s2 1 0).bind fun (m1, m2) => (laws_heldCnf.f kf s1 m2 1).bind fun hh =>
 if a0_0 = q1 ∧ g = (s1, s2, s3) ∧ b1 = true ∧ b2 = true ∧ m1 = hh ∧ 0 ≤ m1 ∧ 0 ≤ p1 then some true else none
set_option maxHeartbeats 4000000 in
set_option maxRecDepth 100000 in
theorem laws_FnExactTseitin.calls (kf : Nat) (a0_0 : Int) (A0_1 : Option Addr) (c0_1 : Nat) (l0_1 : List S133) (a1 : Int) (r : Bool) (w : World) (hr0_1 : Kd.C k133 w A0_1 l0_1.length l0_1) (hc0_1 : l0_1.length ≤ c0_1) (h : laws_FnExactTseitin.f kf a0_0 l0_1 a1 = some r) :
  Calls Try.prog 8 #[.agg #[.int .i64 a0_0, .slice A0_1 l0_1.length c0_1], .int .i64 a1] w fun e w' => e = .returned (.bool r) ∧ Below w.heap.size w w' := by
 have hu39 := Try.underlying39
 have hu46 := Try.underlying46
 have hu67 := Try.underlying67
 unfold laws_FnExactTseitin.f at h
 have hb1 : Below w.heap.size w (w.alloc (.cells #[.int .i64 a0_0, .slice A0_1 l0_1.length c0_1] 39)) := (Below.refl _ _).alloc (Nat.le_refl _) _
 have hW : (w.alloc (.cells #[.int .i64 a0_0, .slice A0_1 l0_1.length c0_1] 39)).heap[w.heap.size]? = some (.cells #[.int .i64 a0_0, .slice A0_1 l0_1.length c0_1] 39 (0, 0)) := by
  show (w.heap.push _)[w.heap.size]? = _
  simp
 obtain ⟨W1, hW1, BX, HB1⟩ : ∃ W1, w.alloc (.cells #[.int .i64 a0_0, .slice A0_1 l0_1.length c0_1] 39) = W1 ∧ W1.heap[w.heap.size]? = some (.cells #[.int .i64 a0_0, .slice A0_1 l0_1.length c0_1] 39 (0, 0)) ∧ Below w.heap.size w W1 := ⟨_, rfl, hW, hb1⟩
 have FA := Aside0.mk (foot_and (foot_blk (ok := fun k_ => k_ < W1.heap.size) BX (blk_lt BX)) (foot_C (d := k133) (show Kd.Heap k133 from Kd.heap_iso _ (Kd.heap_pair (Kd.heap_int .i64) (Kd.heap_int .i64))) (Kd.C_below hr0_1 HB1)))
 have HB := Aside0.mk HB1
 have HQ := Aside0.mk (Nat.le_refl W1.heap.size)
 have HW1 := Aside0.mk hW1
 clear hb1 hW hW1 BX HB1 hr0_1
 replace h := Option.bind_eq_some_iff.1 h
 obtain ⟨t, hsz, h⟩ := h
 by_cases ht : t < 0
 ·rw [if_pos ht] at h
  obtain rfl := Option.some.inj h
  clear h
  go_enter Try.func8, Try.ntmps8
  go_upto_region 2 with fail
  rw [HW1.out]
  clear HW1
  have hx0 := (blk_cell FA.out.now.1 0).trans (show _ = some (.int .i64 a0_0) from rfl)
  have hx1 := (blk_cell FA.out.now.1 1).trans (show _ = some (.slice A0_1 l0_1.length c0_1) from rfl)
  go_wp2_with (go_at_call 18; refine (laws_szAig.calls a0_0 A0_1 c0_1 l0_1 1048576 t _ FA.out.now.2 hc0_1 hsz).mono ?_; rintro e w2 ⟨rfl, hb⟩)
  go_ret
  exact ⟨rfl, HB.out.trans (hb.mono HB.out.size)⟩
 rw [if_neg ht] at h
 replace h := Option.bind_eq_some_iff.1 h
 obtain ⟨⟨q1, x⟩, hto, h⟩ := h
 replace h := Option.bind_eq_some_iff.1 h
 obtain ⟨⟨s1, s2, s3⟩, hsp, h⟩ := h
 replace h := Option.bind_eq_some_iff.1 h
 obtain ⟨g, him, h⟩ := h
 replace h := Option.bind_eq_some_iff.1 h
 obtain ⟨b1, heb, h⟩ := h
 replace h := Option.bind_eq_some_iff.1 h
 obtain ⟨b2, hec, h⟩ := h
 replace h := Option.bind_eq_some_iff.1 h
 obtain ⟨⟨p1, p2⟩, hmx, h⟩ := h
 replace h := Option.bind_eq_some_iff.1 h
 obtain ⟨⟨m1, m2⟩, hmg, h⟩ := h
 replace h := Option.bind_eq_some_iff.1 h
 obtain ⟨hh, hhb, h⟩ := h
 try simp only at h
 by_cases hc : a0_0 = q1 ∧ g = (s1, s2, s3) ∧ b1 = true ∧ b2 = true ∧ m1 = hh ∧ 0 ≤ m1 ∧ 0 ≤ p1
 ·rw [if_pos hc] at h
  obtain ⟨rfl, rfl, rfl, rfl, rfl, hm0, hp0⟩ := hc
  obtain rfl := Option.some.inj h
  clear h
  have hne : (s3 != s3) = false := by simp
  have hne2 : (m1 != m1) = false := by simp
  have hlt1 : ¬ (m1 < 0) := by omega
  have hlt2 : ¬ (p1 < 0) := by omega
  go_enter Try.func8, Try.ntmps8
  go_upto_region 2 with fail
  rw [HW1.out]
  clear HW1
  have hx0 := (blk_cell FA.out.now.1 0).trans (show _ = some (.int .i64 a0_0) from rfl)
  have hx1 := (blk_cell FA.out.now.1 1).trans (show _ = some (.slice A0_1 l0_1.length c0_1) from rfl)
  go_upto_region 5 with (go_at_call 18; (with_reducible refine (laws_szAig.calls a0_0 A0_1 c0_1 l0_1 1048576 t _ FA.out.now.2 hc0_1 hsz).mono ?_); rintro e w2 ⟨rfl, hb⟩; clear hx0 hx1; have mFA_ := Aside0.mk (foot_below FA.out hb); have mHB_ := Aside0.mk (HB.out.trans (hb.mono HB.out.size)); have mHQ_ := Aside0.mk (Nat.le_trans HQ.out hb.size); clear FA HB HQ; have FA := mFA_; have HB := mHB_; have HQ := mHQ_; clear mFA_ mHB_ mHQ_; have hx0 := (blk_cell FA.out.now.1 0).trans (show _ = some (.int .i64 a0_0) from rfl); have hx1 := (blk_cell FA.out.now.1 1).trans (show _ = some (.slice A0_1 l0_1.length c0_1) from rfl); clear hb)
  go_upto_region 6 with (first
   | (go_at_call 20; (with_reducible refine (laws_toAig.calls kf a0_0 A0_1 c0_1 l0_1 a0_0 x _ FA.out.now.2 hc0_1 hto).mono ?_); rintro e w3 ⟨v3, rfl, hR3, hb⟩; clear hx0 hx1; have mFA_ := Aside0.mk (foot_below FA.out hb); have mHB_ := Aside0.mk (HB.out.trans (hb.mono HB.out.size)); have mHQ_ := Aside0.mk (Nat.le_trans HQ.out hb.size); clear FA HB HQ; have FA := mFA_; have HB := mHB_; have HQ := mHQ_; clear mFA_ mHB_ mHQ_; have hx0 := (blk_cell FA.out.now.1 0).trans (show _ = some (.int .i64 a0_0) from rfl); have hx1 := (blk_cell FA.out.now.1 1).trans (show _ = some (.slice A0_1 l0_1.length c0_1) from rfl); clear hb; obtain ⟨A3, c3, ev_, hl3, hC3⟩ := Kd.R_reads hR3; clear hR3; subst ev_)
   | (go_at_call 41; (with_reducible refine (spec_Tseitin.calls kf a0_0 A3 c3 x a1 s1 s2 s3 _ hC3 hl3 hsp).mono ?_); rintro e w3b ⟨v4, rfl, hN4, hb⟩; clear hC3 hl3; clear hx0 hx1; have mFA_ := Aside0.mk (foot_below FA.out hb); have mHB_ := Aside0.mk (HB.out.trans (hb.mono HB.out.size)); have mHQ_ := Aside0.mk (Nat.le_trans HQ.out hb.size); clear FA HB HQ; have FA := mFA_; have HB := mHB_; have HQ := mHQ_; clear mFA_ mHB_ mHQ_; have hx0 := (blk_cell FA.out.now.1 0).trans (show _ = some (.int .i64 a0_0) from rfl); have hx1 := (blk_cell FA.out.now.1 1).trans (show _ = some (.slice A0_1 l0_1.length c0_1) from rfl); clear hb; obtain ⟨A4, c4, ev4, hl4, hC4⟩ := Kd.N_reads hN4; clear hN4; subst ev4; have HC4 := Aside0.mk hC4; have HL4 := Aside0.mk hl4; clear hC4 hl4)
   | ((with_reducible refine gate_dst (N := 6) rfl ?_); refine box_event ?hg (N := 6) ?hd (cs := #[.int .i64 0, .slice none 0 0]) (t := 67) ?hr ?_; (case hd => rfl); (case hg => rfl); (case hr => first | (go_simp; done) | (go_simp; rfl)); intro gb4 hgw wb4 hbox hbb; have hcz0 := (blk_cell hbox 0).trans (show _ = some (.int .i64 0) from rfl); have hcz1 := (blk_cell hbox 1).trans (show _ = some (.slice none 0 0) from rfl); have hfz0 := blk_frozen hbox 0; have hfz1 := blk_frozen hbox 1; have hgw_ := Aside0.mk hgw; clear hgw; have hgw := hgw_; clear hgw_)
   | ((with_reducible refine gate_store (t := 67) (p := 6) rfl ?_); refine store_event (t := 67) (p := 6) (v := ?vo_6) (w1 := (wb4.setCell ⟨gb4, 0, none⟩ (.int .i64 s1)).setCell ⟨gb4, 1, none⟩ (.slice A4 s2.length c4)) ?hg ?ho ?hn ?hr ?_; (case ho => rfl); (case hg => rfl); (case hn => rfl); (case hr => first | (go_simp; done) | (go_simp; rfl)); clear hcz0 hcz1 hfz0 hfz1; intro w4 hw_; obtain ⟨hbk, hb⟩ := box2 (t := 67) (a := .int .i64 s1) (v := .slice A4 s2.length c4) hgw.out hbox hbb; rw [← hw_] at hbk hb; clear hw_ hbox hbb; clear hx0 hx1; have mFA_ := Aside0.mk (foot_below FA.out hb); have mHB_ := Aside0.mk (HB.out.trans (hb.mono HB.out.size)); have mHQ_ := Aside0.mk (Nat.le_trans HQ.out hb.size); clear FA HB HQ; have FA := mFA_; have HB := mHB_; have HQ := mHQ_; clear mFA_ mHB_ mHQ_; have hx0 := (blk_cell FA.out.now.1 0).trans (show _ = some (.int .i64 a0_0) from rfl); have hx1 := (blk_cell FA.out.now.1 1).trans (show _ = some (.slice A0_1 l0_1.length c0_1) from rfl); have FW := Aside0.mk (foot_and (foot_blk (ok := fun k_ => k_ < w4.heap.size) hbk (blk_lt hbk)) (foot_C (Kd.heap_slice 3 (Kd.heap_int .i64)) (Kd.C_below HC4.out hb))); clear HC4; have H14 := Aside0.mk HQ.out; clear hgw hb hbk))
  have hw0 := (blk_cell FW.out.now.1 0).trans (show _ = some (.int .i64 s1) from rfl)
  have hw1 := (blk_cell FW.out.now.1 1).trans (show _ = some (.slice A4 s2.length c4) from rfl)
  go_upto_region 7 with (first
   | (go_at_call 20; (with_reducible refine (laws_toAig.calls kf a0_0 A0_1 c0_1 l0_1 a0_0 x _ FA.out.now.2 hc0_1 hto).mono ?_); rintro e w5 ⟨v5, rfl, hR5, hb⟩; have HX := Aside0.mk (foot_R (Kd.R_lower (Kd.R_mono (ok' := fun k_ => w4.heap.size ≤ k_ ∧ k_ < w5.heap.size) (Kd.R_bound hR5) (fun k_ hk_ => ⟨hk_.2.1, hk_.2.2.1⟩)) HB.out.size)); have H45 := Aside0.mk hb.size; clear hx0 hx1 hw0 hw1; have mFA_ := Aside0.mk (foot_below FA.out hb); have mFW_ := Aside0.mk (foot_below FW.out hb); have mHB_ := Aside0.mk (HB.out.trans (hb.mono HB.out.size)); have mHQ_ := Aside0.mk (Nat.le_trans HQ.out hb.size); clear FA FW HB HQ; have FA := mFA_; have FW := mFW_; have HB := mHB_; have HQ := mHQ_; clear mFA_ mFW_ mHB_ mHQ_; have hx0 := (blk_cell FA.out.now.1 0).trans (show _ = some (.int .i64 a0_0) from rfl); have hx1 := (blk_cell FA.out.now.1 1).trans (show _ = some (.slice A0_1 l0_1.length c0_1) from rfl); have hw0 := (blk_cell FW.out.now.1 0).trans (show _ = some (.int .i64 s1) from rfl); have hw1 := (blk_cell FW.out.now.1 1).trans (show _ = some (.slice A4 s2.length c4) from rfl); clear hb; obtain ⟨A5, c5, ev5⟩ := Kd.R_slice hR5; clear hR5; subst ev5)
   | ((with_reducible refine gate_dst (N := 8) rfl ?_); refine box_event ?hg (N := 8) ?hd (cs := #[.int .i64 0, .slice none 0 0]) (t := 46) ?hr ?_; (case hd => rfl); (case hg => rfl); (case hr => first | (go_simp; done) | (go_simp; rfl)); intro gb5 hgw wb5 hbox hbb; have hcz0 := (blk_cell hbox 0).trans (show _ = some (.int .i64 0) from rfl); have hcz1 := (blk_cell hbox 1).trans (show _ = some (.slice none 0 0) from rfl); have hfz0 := blk_frozen hbox 0; have hfz1 := blk_frozen hbox 1; have hgw_ := Aside0.mk hgw; clear hgw; have hgw := hgw_; clear hgw_)
   | ((with_reducible refine gate_store (t := 46) (p := 8) rfl ?_); refine store_event (t := 46) (p := 8) (v := ?vo_8) (w1 := (wb5.setCell ⟨gb5, 0, none⟩ (.int .i64 a0_0)).setCell ⟨gb5, 1, none⟩ (.slice A5 x.length c5)) ?hg ?ho ?hn ?hr ?_; (case ho => rfl); (case hg => rfl); (case hn => rfl); (case hr => first | (go_simp; done) | (go_simp; rfl)); clear hcz0 hcz1 hfz0 hfz1; intro w6 hw_; obtain ⟨hbk, hb⟩ := box2 (t := 46) (a := .int .i64 a0_0) (v := .slice A5 x.length c5) hgw.out hbox hbb; rw [← hw_] at hbk hb; clear hw_ hbox hbb; clear hx0 hx1 hw0 hw1; have mFA_ := Aside0.mk (foot_below FA.out hb); have mFW_ := Aside0.mk (foot_below FW.out hb); have mHX_ := Aside0.mk (foot_below HX.out hb); have mHB_ := Aside0.mk (HB.out.trans (hb.mono HB.out.size)); have mHQ_ := Aside0.mk (Nat.le_trans HQ.out hb.size); clear FA FW HX HB HQ; have FA := mFA_; have FW := mFW_; have HX := mHX_; have HB := mHB_; have HQ := mHQ_; clear mFA_ mFW_ mHX_ mHB_ mHQ_; have hx0 := (blk_cell FA.out.now.1 0).trans (show _ = some (.int .i64 a0_0) from rfl); have hx1 := (blk_cell FA.out.now.1 1).trans (show _ = some (.slice A0_1 l0_1.length c0_1) from rfl); have hw0 := (blk_cell FW.out.now.1 0).trans (show _ = some (.int .i64 s1) from rfl); have hw1 := (blk_cell FW.out.now.1 1).trans (show _ = some (.slice A4 s2.length c4) from rfl); have HXB := Aside0.mk (foot_blk (ok := fun k_ => k_ = gb5) hbk rfl); have HG5 := Aside0.mk (hgw.out); have H56 := Aside0.mk (blk_lt hbk); have H56b := Aside0.mk hb.size; clear hgw hb hbk))
  have hy0 := (blk_cell HXB.out.now 0).trans (show _ = some (.int .i64 a0_0) from rfl)
  have hy1 := (blk_cell HXB.out.now 1).trans (show _ = some (.slice A5 x.length c5) from rfl)
  go_upto_region 8 with (first
   | (go_at_call 42; (with_reducible refine (impl_Tseitin.calls kf a0_0 A5 c5 x a1 s1 s2 s3 _ (Kd.R_reads' HX.out.now).2.2 (Kd.R_reads' HX.out.now).2.1 him).mono ?_); rintro e w7 ⟨v7, rfl, hS7, hb⟩; have HG := Aside0.mk (foot_S (Kd.S_lower (Kd.S_mono (ok' := fun k_ => w6.heap.size ≤ k_ ∧ k_ < w7.heap.size) (Kd.S_bound hS7) (fun k_ hk_ => ⟨hk_.2.1, hk_.2.2.1⟩)) HB.out.size)); have H67 := Aside0.mk hb.size; clear hx0 hx1 hw0 hw1 hy0 hy1; have mFA_ := Aside0.mk (foot_below FA.out hb); have mFW_ := Aside0.mk (foot_below FW.out hb); have mHX_ := Aside0.mk (foot_below HX.out hb); have mHXB_ := Aside0.mk (foot_below HXB.out hb); have mHB_ := Aside0.mk (HB.out.trans (hb.mono HB.out.size)); have mHQ_ := Aside0.mk (Nat.le_trans HQ.out hb.size); clear FA FW HX HXB HB HQ; have FA := mFA_; have FW := mFW_; have HX := mHX_; have HXB := mHXB_; have HB := mHB_; have HQ := mHQ_; clear mFA_ mFW_ mHX_ mHXB_ mHB_ mHQ_; have hx0 := (blk_cell FA.out.now.1 0).trans (show _ = some (.int .i64 a0_0) from rfl); have hx1 := (blk_cell FA.out.now.1 1).trans (show _ = some (.slice A0_1 l0_1.length c0_1) from rfl); have hw0 := (blk_cell FW.out.now.1 0).trans (show _ = some (.int .i64 s1) from rfl); have hw1 := (blk_cell FW.out.now.1 1).trans (show _ = some (.slice A4 s2.length c4) from rfl); have hy0 := (blk_cell HXB.out.now 0).trans (show _ = some (.int .i64 a0_0) from rfl); have hy1 := (blk_cell HXB.out.now 1).trans (show _ = some (.slice A5 x.length c5) from rfl); clear hb; obtain ⟨A7, c7, ev7⟩ := Kd.S_slice hS7; clear hS7; subst ev7)
   | ((with_reducible refine gate_dst (N := 9) rfl ?_); refine box_event ?hg (N := 9) ?hd (cs := #[.int .i64 0, .slice none 0 0]) (t := 67) ?hr ?_; (case hd => rfl); (case hg => rfl); (case hr => first | (go_simp; done) | (go_simp; rfl)); intro gb7 hgw wb7 hbox hbb; have hcz0 := (blk_cell hbox 0).trans (show _ = some (.int .i64 0) from rfl); have hcz1 := (blk_cell hbox 1).trans (show _ = some (.slice none 0 0) from rfl); have hfz0 := blk_frozen hbox 0; have hfz1 := blk_frozen hbox 1; have hgw_ := Aside0.mk hgw; clear hgw; have hgw := hgw_; clear hgw_)
   | ((with_reducible refine gate_store (t := 67) (p := 9) rfl ?_); refine store_event (t := 67) (p := 9) (v := ?vo_9) (w1 := (wb7.setCell ⟨gb7, 0, none⟩ (.int .i64 s1)).setCell ⟨gb7, 1, none⟩ (.slice A7 s2.length c7)) ?hg ?ho ?hn ?hr ?_; (case ho => rfl); (case hg => rfl); (case hn => rfl); (case hr => first | (go_simp; done) | (go_simp; rfl)); clear hcz0 hcz1 hfz0 hfz1; intro w8 hw_; obtain ⟨hbk, hb⟩ := box2 (t := 67) (a := .int .i64 s1) (v := .slice A7 s2.length c7) hgw.out hbox hbb; rw [← hw_] at hbk hb; clear hw_ hbox hbb; clear hx0 hx1 hw0 hw1 hy0 hy1; have mFA_ := Aside0.mk (foot_below FA.out hb); have mFW_ := Aside0.mk (foot_below FW.out hb); have mHX_ := Aside0.mk (foot_below HX.out hb); have mHXB_ := Aside0.mk (foot_below HXB.out hb); have mHG_ := Aside0.mk (foot_below HG.out hb); have mHB_ := Aside0.mk (HB.out.trans (hb.mono HB.out.size)); have mHQ_ := Aside0.mk (Nat.le_trans HQ.out hb.size); clear FA FW HX HXB HG HB HQ; have FA := mFA_; have FW := mFW_; have HX := mHX_; have HXB := mHXB_; have HG := mHG_; have HB := mHB_; have HQ := mHQ_; clear mFA_ mFW_ mHX_ mHXB_ mHG_ mHB_ mHQ_; have hx0 := (blk_cell FA.out.now.1 0).trans (show _ = some (.int .i64 a0_0) from rfl); have hx1 := (blk_cell FA.out.now.1 1).trans (show _ = some (.slice A0_1 l0_1.length c0_1) from rfl); have hw0 := (blk_cell FW.out.now.1 0).trans (show _ = some (.int .i64 s1) from rfl); have hw1 := (blk_cell FW.out.now.1 1).trans (show _ = some (.slice A4 s2.length c4) from rfl); have hy0 := (blk_cell HXB.out.now 0).trans (show _ = some (.int .i64 a0_0) from rfl); have hy1 := (blk_cell HXB.out.now 1).trans (show _ = some (.slice A5 x.length c5) from rfl); have HGB := Aside0.mk (foot_blk (ok := fun k_ => k_ = gb7) hbk rfl); have HG7 := Aside0.mk (hgw.out); clear hgw hb hbk))
  have hg0 := (blk_cell HGB.out.now 0).trans (show _ = some (.int .i64 s1) from rfl)
  have hg1 := (blk_cell HGB.out.now 1).trans (show _ = some (.slice A7 s2.length c7) from rfl)
  go_upto_region 10 with (go_at_call 43; (with_reducible refine (laws_eqCnf.calls kf s1 A7 c7 s2 s1 A4 c4 s2 true _ (Kd.S_reads' HG.out.now).2.2 (Kd.S_reads' HG.out.now).2.1 FW.out.now.2 HL4.out heb).mono ?_); rintro e w9 ⟨rfl, hb⟩; clear hx0 hx1 hw0 hw1 hy0 hy1 hg0 hg1; have mFA_ := Aside0.mk (foot_below FA.out hb); have mFW_ := Aside0.mk (foot_below FW.out hb); have mHX_ := Aside0.mk (foot_below HX.out hb); have mHXB_ := Aside0.mk (foot_below HXB.out hb); have mHG_ := Aside0.mk (foot_below HG.out hb); have mHGB_ := Aside0.mk (foot_below HGB.out hb); have mHB_ := Aside0.mk (HB.out.trans (hb.mono HB.out.size)); have mHQ_ := Aside0.mk (Nat.le_trans HQ.out hb.size); clear FA FW HX HXB HG HGB HB HQ; have FA := mFA_; have FW := mFW_; have HX := mHX_; have HXB := mHXB_; have HG := mHG_; have HGB := mHGB_; have HB := mHB_; have HQ := mHQ_; clear mFA_ mFW_ mHX_ mHXB_ mHG_ mHGB_ mHB_ mHQ_; have hx0 := (blk_cell FA.out.now.1 0).trans (show _ = some (.int .i64 a0_0) from rfl); have hx1 := (blk_cell FA.out.now.1 1).trans (show _ = some (.slice A0_1 l0_1.length c0_1) from rfl); have hw0 := (blk_cell FW.out.now.1 0).trans (show _ = some (.int .i64 s1) from rfl); have hw1 := (blk_cell FW.out.now.1 1).trans (show _ = some (.slice A4 s2.length c4) from rfl); have hy0 := (blk_cell HXB.out.now 0).trans (show _ = some (.int .i64 a0_0) from rfl); have hy1 := (blk_cell HXB.out.now 1).trans (show _ = some (.slice A5 x.length c5) from rfl); have hg0 := (blk_cell HGB.out.now 0).trans (show _ = some (.int .i64 s1) from rfl); have hg1 := (blk_cell HGB.out.now 1).trans (show _ = some (.slice A7 s2.length c7) from rfl); clear hb)
  have hbd := below_drew (Below.refl w9.heap.size w9)
  clear hx0 hx1 hw0 hw1 hy0 hy1 hg0 hg1
  have mFA_ := Aside0.mk (foot_below FA.out hbd)
  have mFW_ := Aside0.mk (foot_below FW.out hbd)
  have mHX_ := Aside0.mk (foot_below HX.out hbd)
  have mHXB_ := Aside0.mk (foot_below HXB.out hbd)
  have mHG_ := Aside0.mk (foot_below HG.out hbd)
  have mHGB_ := Aside0.mk (foot_below HGB.out hbd)
  have mHB_ := Aside0.mk (HB.out.trans (hbd.mono HB.out.size))
  have mHQ_ := Aside0.mk (Nat.le_trans HQ.out hbd.size)
  clear FA FW HX HXB HG HGB HB HQ
  have FA := mFA_
  have FW := mFW_
  have HX := mHX_
  have HXB := mHXB_
  have HG := mHG_
  have HGB := mHGB_
  have HB := mHB_
  have HQ := mHQ_
  clear mFA_ mFW_ mHX_ mHXB_ mHG_ mHGB_ mHB_ mHQ_
  have hx0 := (blk_cell FA.out.now.1 0).trans (show _ = some (.int .i64 a0_0) from rfl)
  have hx1 := (blk_cell FA.out.now.1 1).trans (show _ = some (.slice A0_1 l0_1.length c0_1) from rfl)
  have hw0 := (blk_cell FW.out.now.1 0).trans (show _ = some (.int .i64 s1) from rfl)
  have hw1 := (blk_cell FW.out.now.1 1).trans (show _ = some (.slice A4 s2.length c4) from rfl)
  have hy0 := (blk_cell HXB.out.now 0).trans (show _ = some (.int .i64 a0_0) from rfl)
  have hy1 := (blk_cell HXB.out.now 1).trans (show _ = some (.slice A5 x.length c5) from rfl)
  have hg0 := (blk_cell HGB.out.now 0).trans (show _ = some (.int .i64 s1) from rfl)
  have hg1 := (blk_cell HGB.out.now 1).trans (show _ = some (.slice A7 s2.length c7) from rfl)
  clear hbd
  generalize hw9 : w9.drew = w10 at *
  refine start_ (n := 5) (S := fun w' => w'.cell? ⟨w.heap.size, 0, none⟩ = some (.int .i64 a0_0) ∧ w'.cell? ⟨w.heap.size, 1, none⟩ = some (.slice A0_1 l0_1.length c0_1) ∧ w'.cell? ⟨gb4, 0, none⟩ = some (.int .i64 s1) ∧ w'.cell? ⟨gb4, 1, none⟩ = some (.slice A4 s2.length c4) ∧ w'.cell? ⟨gb5, 0, none⟩ = some (.int .i64 a0_0) ∧ w'.cell? ⟨gb5, 1, none⟩ = some (.slice A5 x.length c5) ∧ w'.cell? ⟨gb7, 0, none⟩ = some (.int .i64 s1) ∧ w'.cell? ⟨gb7, 1, none⟩ = some (.slice A7 s2.length c7)) (ds := []) #[false, false, false, false, false] (by kernel_rfl) rfl rfl (by rw [hw9]; exact ⟨hx0, hx1, hw0, hw1, hy0, hy1, hg0, hg1⟩) (fun hHeld => ?_)
  refine with_tabW lawT_tab lawT_bits (fun HT_ HW_ => ?_)
  rw [hw9] at hHeld ⊢
  clear hw9
  refine take_ (i := 0) (N := some 45) (v := ?_) (a' := ?_) #[true, false, false, false, false] rfl rfl (take_ofW HT_.out HW_.out (by kernel_rfl)) (fun _ _ _ h => h) (Or.inl ⟨by rfl, ?_⟩) hHeld ?_ ?_
  rotate_left
  ·rintro w' ⟨s0, s1, s2, s3, s4, s5, s6, s7⟩
   go_simp
   with_reducible rfl
  rotate_left
  ·simp only [Act.put, List.setIfInBounds_toArray, List.set_cons_zero, List.set_cons_succ, i64_w, i32_w]
   rfl
  refine take_ (i := 1) (N := some 46) (v := ?_) (a' := ?_) #[true, true, false, false, false] rfl rfl (take_ofW HT_.out HW_.out (by kernel_rfl)) (fun _ _ _ h => h) (Or.inl ⟨by rfl, ?_⟩) hHeld ?_ ?_
  rotate_left
  ·rintro w' ⟨s0, s1, s2, s3, s4, s5, s6, s7⟩
   go_simp
   with_reducible rfl
  rotate_left
  ·simp only [Act.put, List.setIfInBounds_toArray, List.set_cons_zero, List.set_cons_succ, i64_w, i32_w]
   rfl
  refine one_ (i := 2) (N := some 47) #[true, true, true, false, false] rfl rfl (one_of HT_.out (by kernel_rfl)) (by decide) (fun K hK => ?_)
  refine call_ 20 #[.agg #[.int .i64 a0_0, .slice A0_1 l0_1.length c0_1]] (by rfl) rfl ?hrun2 ?h2
  case hrun2 =>
   have he := enters_of Try.func20 (by kernel_rfl) rfl
   unfold execOp
   simp [resolve, Deferred.ofValue, invoke, Act.eval, he]
  refine (laws_toAig.calls kf a0_0 A0_1 c0_1 l0_1 a0_0 x _ FA.out.now.2 hc0_1 hto).mono ?_
  rintro e w11 ⟨v10, rfl, hR10, hb⟩
  refine ⟨_, rfl, ?_⟩
  clear hx0 hx1 hw0 hw1 hy0 hy1 hg0 hg1
  have mFA_ := Aside0.mk (foot_below FA.out hb)
  have mFW_ := Aside0.mk (foot_below FW.out hb)
  have mHX_ := Aside0.mk (foot_below HX.out hb)
  have mHXB_ := Aside0.mk (foot_below HXB.out hb)
  have mHG_ := Aside0.mk (foot_below HG.out hb)
  have mHGB_ := Aside0.mk (foot_below HGB.out hb)
  have mHB_ := Aside0.mk (HB.out.trans (hb.mono HB.out.size))
  have mHQ_ := Aside0.mk (Nat.le_trans HQ.out hb.size)
  clear FA FW HX HXB HG HGB HB HQ
  have FA := mFA_
  have FW := mFW_
  have HX := mHX_
  have HXB := mHXB_
  have HG := mHG_
  have HGB := mHGB_
  have HB := mHB_
  have HQ := mHQ_
  clear mFA_ mFW_ mHX_ mHXB_ mHG_ mHGB_ mHB_ mHQ_
  have hx0 := (blk_cell FA.out.now.1 0).trans (show _ = some (.int .i64 a0_0) from rfl)
  have hx1 := (blk_cell FA.out.now.1 1).trans (show _ = some (.slice A0_1 l0_1.length c0_1) from rfl)
  have hw0 := (blk_cell FW.out.now.1 0).trans (show _ = some (.int .i64 s1) from rfl)
  have hw1 := (blk_cell FW.out.now.1 1).trans (show _ = some (.slice A4 s2.length c4) from rfl)
  have hy0 := (blk_cell HXB.out.now 0).trans (show _ = some (.int .i64 a0_0) from rfl)
  have hy1 := (blk_cell HXB.out.now 1).trans (show _ = some (.slice A5 x.length c5) from rfl)
  have hg0 := (blk_cell HGB.out.now 0).trans (show _ = some (.int .i64 s1) from rfl)
  have hg1 := (blk_cell HGB.out.now 1).trans (show _ = some (.slice A7 s2.length c7) from rfl)
  clear hb
  obtain ⟨A10, c10, ev_, hl10, hC10⟩ := Kd.R_reads hR10
  clear hR10
  subst ev_
  refine hK.out _ _ ⟨hx0, hx1, hw0, hw1, hy0, hy1, hg0, hg1⟩ (fun hHeld => ?_)
  clear hK K
  refine norm_ (a' := ?_) ?_ ?_
  rotate_left
  ·show Act.put _ (some 47) _ = _
   simp only [Act.put, List.setIfInBounds_toArray, List.set_cons_zero, List.set_cons_succ, i64_w, i32_w]
   rfl
  refine one_ (i := 3) (N := some 48) #[true, true, true, true, false] rfl rfl (one_of HT_.out (by kernel_rfl)) (by decide) (fun K hK => ?_)
  refine call_ 23 #[.agg #[.int .i64 a0_0, .slice A5 x.length c5], .agg #[.int .i64 a0_0, .slice A10 x.length c10]] (by rfl) rfl ?hrun3 ?h3
  case hrun3 =>
   have he := enters_of Try.func23 (by kernel_rfl) rfl
   unfold execOp
   simp [resolve, Deferred.ofValue, invoke, Act.eval, he]
  refine (laws_eqAig.calls kf a0_0 A5 c5 x a0_0 A10 c10 x true _ (Kd.R_reads' HX.out.now).2.2 (Kd.R_reads' HX.out.now).2.1 hC10 hl10 hec).mono ?_
  rintro e w12 ⟨rfl, hb⟩
  refine ⟨_, rfl, ?_⟩
  clear hC10 hl10
  clear hx0 hx1 hw0 hw1 hy0 hy1 hg0 hg1
  have mFA_ := Aside0.mk (foot_below FA.out hb)
  have mFW_ := Aside0.mk (foot_below FW.out hb)
  have mHX_ := Aside0.mk (foot_below HX.out hb)
  have mHXB_ := Aside0.mk (foot_below HXB.out hb)
  have mHG_ := Aside0.mk (foot_below HG.out hb)
  have mHGB_ := Aside0.mk (foot_below HGB.out hb)
  have mHB_ := Aside0.mk (HB.out.trans (hb.mono HB.out.size))
  have mHQ_ := Aside0.mk (Nat.le_trans HQ.out hb.size)
  clear FA FW HX HXB HG HGB HB HQ
  have FA := mFA_
  have FW := mFW_
  have HX := mHX_
  have HXB := mHXB_
  have HG := mHG_
  have HGB := mHGB_
  have HB := mHB_
  have HQ := mHQ_
  clear mFA_ mFW_ mHX_ mHXB_ mHG_ mHGB_ mHB_ mHQ_
  have hx0 := (blk_cell FA.out.now.1 0).trans (show _ = some (.int .i64 a0_0) from rfl)
  have hx1 := (blk_cell FA.out.now.1 1).trans (show _ = some (.slice A0_1 l0_1.length c0_1) from rfl)
  have hw0 := (blk_cell FW.out.now.1 0).trans (show _ = some (.int .i64 s1) from rfl)
  have hw1 := (blk_cell FW.out.now.1 1).trans (show _ = some (.slice A4 s2.length c4) from rfl)
  have hy0 := (blk_cell HXB.out.now 0).trans (show _ = some (.int .i64 a0_0) from rfl)
  have hy1 := (blk_cell HXB.out.now 1).trans (show _ = some (.slice A5 x.length c5) from rfl)
  have hg0 := (blk_cell HGB.out.now 0).trans (show _ = some (.int .i64 s1) from rfl)
  have hg1 := (blk_cell HGB.out.now 1).trans (show _ = some (.slice A7 s2.length c7) from rfl)
  clear hb
  refine hK.out _ _ ⟨hx0, hx1, hw0, hw1, hy0, hy1, hg0, hg1⟩ (fun hHeld => ?_)
  clear hK K
  refine norm_ (a' := ?_) ?_ ?_
  rotate_left
  ·show Act.put _ (some 48) _ = _
   simp only [Act.put, List.setIfInBounds_toArray, List.set_cons_zero, List.set_cons_succ, i64_w, i32_w]
   rfl
  refine pure_ (i := 4) (N := some 49) (v := ?_) (a' := ?_) #[true, true, true, true, true] rfl rfl (any_of HT_.out (by kernel_rfl)) (fun _ _ _ h => h) (Or.inl ⟨by rfl, ?_⟩) ?_ ?_
  rotate_left
  ·intro w'
   go_simp
   with_reducible rfl
  rotate_left
  ·simp only [Act.put, List.setIfInBounds_toArray, List.set_cons_zero, List.set_cons_succ, i64_w, i32_w]
   rfl
  refine done_ (done_of HT_.out (by kernel_rfl)) ?_
  clear hHeld HT_ HW_
  go_upto_region 13 with fail
  go_upto_region 14 with (go_at_call 25; (with_reducible refine (laws_markAig.calls kf a0_0 (fun k_ => w4.heap.size ≤ k_ ∧ k_ < w5.heap.size) (.slice A5 x.length c5) x 1 p1 p2 w _ HB.out HX.out.now hmx).mono ?_); rintro e w13 ⟨rfl, hR13, hbB, hbK⟩; clear HX hR13; clear hx0 hx1 hw0 hw1 hy0 hy1 hg0 hg1; have mFA_ := Aside0.mk (foot_kept FA.out hbK (fun k_ hk_ hs_ => by have g1_ : k_ < W1.heap.size := hk_; have g2_ : w4.heap.size ≤ k_ ∧ k_ < w5.heap.size := hs_; have := H14.out; have := H45.out; have := HG5.out; have := H56.out; have := H67.out; have := HG7.out; omega)); have mFW_ := Aside0.mk (foot_kept FW.out hbK (fun k_ hk_ hs_ => by have g1_ : k_ < w4.heap.size := hk_; have g2_ : w4.heap.size ≤ k_ ∧ k_ < w5.heap.size := hs_; have := H14.out; have := H45.out; have := HG5.out; have := H56.out; have := H67.out; have := HG7.out; omega)); have mHXB_ := Aside0.mk (foot_kept HXB.out hbK (fun k_ hk_ hs_ => by have g1_ : k_ = gb5 := hk_; have g2_ : w4.heap.size ≤ k_ ∧ k_ < w5.heap.size := hs_; have := H14.out; have := H45.out; have := HG5.out; have := H56.out; have := H67.out; have := HG7.out; omega)); have mHG_ := Aside0.mk (foot_kept HG.out hbK (fun k_ hk_ hs_ => by have g1_ : w6.heap.size ≤ k_ ∧ k_ < w7.heap.size := hk_; have g2_ : w4.heap.size ≤ k_ ∧ k_ < w5.heap.size := hs_; have := H14.out; have := H45.out; have := HG5.out; have := H56.out; have := H67.out; have := HG7.out; omega)); have mHGB_ := Aside0.mk (foot_kept HGB.out hbK (fun k_ hk_ hs_ => by have g1_ : k_ = gb7 := hk_; have g2_ : w4.heap.size ≤ k_ ∧ k_ < w5.heap.size := hs_; have := H14.out; have := H45.out; have := HG5.out; have := H56.out; have := H67.out; have := HG7.out; omega)); have mHB_ := Aside0.mk (hbB); have mHQ_ := Aside0.mk (Nat.le_trans HQ.out hbK.1); clear FA FW HXB HG HGB HB HQ; have FA := mFA_; have FW := mFW_; have HXB := mHXB_; have HG := mHG_; have HGB := mHGB_; have HB := mHB_; have HQ := mHQ_; clear mFA_ mFW_ mHXB_ mHG_ mHGB_ mHB_ mHQ_; have hx0 := (blk_cell FA.out.now.1 0).trans (show _ = some (.int .i64 a0_0) from rfl); have hx1 := (blk_cell FA.out.now.1 1).trans (show _ = some (.slice A0_1 l0_1.length c0_1) from rfl); have hw0 := (blk_cell FW.out.now.1 0).trans (show _ = some (.int .i64 s1) from rfl); have hw1 := (blk_cell FW.out.now.1 1).trans (show _ = some (.slice A4 s2.length c4) from rfl); have hy0 := (blk_cell HXB.out.now 0).trans (show _ = some (.int .i64 a0_0) from rfl); have hy1 := (blk_cell HXB.out.now 1).trans (show _ = some (.slice A5 x.length c5) from rfl); have hg0 := (blk_cell HGB.out.now 0).trans (show _ = some (.int .i64 s1) from rfl); have hg1 := (blk_cell HGB.out.now 1).trans (show _ = some (.slice A7 s2.length c7) from rfl); clear hbK hbB)
  go_upto_region 17 with (go_at_call 43; (with_reducible refine (laws_eqCnf.calls kf s1 A7 c7 s2 s1 A4 c4 s2 true _ (Kd.S_reads' HG.out.now).2.2 (Kd.S_reads' HG.out.now).2.1 FW.out.now.2 HL4.out heb).mono ?_); rintro e w14 ⟨rfl, hb⟩; clear hx0 hx1 hw0 hw1 hy0 hy1 hg0 hg1; have mFA_ := Aside0.mk (foot_below FA.out hb); have mFW_ := Aside0.mk (foot_below FW.out hb); have mHXB_ := Aside0.mk (foot_below HXB.out hb); have mHG_ := Aside0.mk (foot_below HG.out hb); have mHGB_ := Aside0.mk (foot_below HGB.out hb); have mHB_ := Aside0.mk (HB.out.trans (hb.mono HB.out.size)); have mHQ_ := Aside0.mk (Nat.le_trans HQ.out hb.size); clear FA FW HXB HG HGB HB HQ; have FA := mFA_; have FW := mFW_; have HXB := mHXB_; have HG := mHG_; have HGB := mHGB_; have HB := mHB_; have HQ := mHQ_; clear mFA_ mFW_ mHXB_ mHG_ mHGB_ mHB_ mHQ_; have hx0 := (blk_cell FA.out.now.1 0).trans (show _ = some (.int .i64 a0_0) from rfl); have hx1 := (blk_cell FA.out.now.1 1).trans (show _ = some (.slice A0_1 l0_1.length c0_1) from rfl); have hw0 := (blk_cell FW.out.now.1 0).trans (show _ = some (.int .i64 s1) from rfl); have hw1 := (blk_cell FW.out.now.1 1).trans (show _ = some (.slice A4 s2.length c4) from rfl); have hy0 := (blk_cell HXB.out.now 0).trans (show _ = some (.int .i64 a0_0) from rfl); have hy1 := (blk_cell HXB.out.now 1).trans (show _ = some (.slice A5 x.length c5) from rfl); have hg0 := (blk_cell HGB.out.now 0).trans (show _ = some (.int .i64 s1) from rfl); have hg1 := (blk_cell HGB.out.now 1).trans (show _ = some (.slice A7 s2.length c7) from rfl); clear hb)
  go_upto_region 19 with (go_at_call 44; (with_reducible refine (markCnf_val (s2.length + 1) m1 m2 (fun k_ => w6.heap.size ≤ k_ ∧ k_ < w7.heap.size) (.slice A7 s2.length c7) s2 s1 1 w _ HB.out HG.out.now hmg).mono ?_); rintro e w15 ⟨rfl, hC15, hbB, hbK⟩; obtain ⟨A15, c15, ev15, hl15, hC15⟩ := hC15; clear HG; clear hx0 hx1 hw0 hw1 hy0 hy1 hg0 hg1; have mFA_ := Aside0.mk (foot_kept FA.out hbK (fun k_ hk_ hs_ => by have g1_ : k_ < W1.heap.size := hk_; have g2_ : w6.heap.size ≤ k_ ∧ k_ < w7.heap.size := hs_; have := H14.out; have := H45.out; have := HG5.out; have := H56.out; have := H67.out; have := HG7.out; omega)); have mFW_ := Aside0.mk (foot_kept FW.out hbK (fun k_ hk_ hs_ => by have g1_ : k_ < w4.heap.size := hk_; have g2_ : w6.heap.size ≤ k_ ∧ k_ < w7.heap.size := hs_; have := H14.out; have := H45.out; have := HG5.out; have := H56.out; have := H67.out; have := HG7.out; omega)); have mHXB_ := Aside0.mk (foot_kept HXB.out hbK (fun k_ hk_ hs_ => by have g1_ : k_ = gb5 := hk_; have g2_ : w6.heap.size ≤ k_ ∧ k_ < w7.heap.size := hs_; have := H14.out; have := H45.out; have := HG5.out; have := H56.out; have := H67.out; have := HG7.out; omega)); have mHGB_ := Aside0.mk (foot_kept HGB.out hbK (fun k_ hk_ hs_ => by have g1_ : k_ = gb7 := hk_; have g2_ : w6.heap.size ≤ k_ ∧ k_ < w7.heap.size := hs_; have := H14.out; have := H45.out; have := HG5.out; have := H56.out; have := H67.out; have := HG7.out; omega)); have mHB_ := Aside0.mk (hbB); have mHQ_ := Aside0.mk (Nat.le_trans HQ.out hbK.1); clear FA FW HXB HGB HB HQ; have FA := mFA_; have FW := mFW_; have HXB := mHXB_; have HGB := mHGB_; have HB := mHB_; have HQ := mHQ_; clear mFA_ mFW_ mHXB_ mHGB_ mHB_ mHQ_; have hx0 := (blk_cell FA.out.now.1 0).trans (show _ = some (.int .i64 a0_0) from rfl); have hx1 := (blk_cell FA.out.now.1 1).trans (show _ = some (.slice A0_1 l0_1.length c0_1) from rfl); have hw0 := (blk_cell FW.out.now.1 0).trans (show _ = some (.int .i64 s1) from rfl); have hw1 := (blk_cell FW.out.now.1 1).trans (show _ = some (.slice A4 s2.length c4) from rfl); have hy0 := (blk_cell HXB.out.now 0).trans (show _ = some (.int .i64 a0_0) from rfl); have hy1 := (blk_cell HXB.out.now 1).trans (show _ = some (.slice A5 x.length c5) from rfl); have hg0 := (blk_cell HGB.out.now 0).trans (show _ = some (.int .i64 s1) from rfl); have hg1 := (blk_cell HGB.out.now 1).trans (show _ = some (.slice A7 s2.length c7) from rfl); have HM := Aside0.mk (foot_C (Kd.heap_slice 3 (Kd.heap_int .i64)) hC15); have HLM := Aside0.mk hl15; have HEM := Aside0.mk ev15; clear hbK hbB hC15 hl15 ev15)
  go_upto_region 24 with (go_at_call 45; (with_reducible refine (heldC_at kf s1 A7 c7 s2.length A15 c15 m2 1 m1 _ HEM.out HLM.out HM.out.now hhb).mono ?_); rintro e w16 ⟨rfl, hb⟩; clear hx0 hx1 hw0 hw1 hy0 hy1 hg0 hg1; have mFA_ := Aside0.mk (foot_below FA.out hb); have mFW_ := Aside0.mk (foot_below FW.out hb); have mHXB_ := Aside0.mk (foot_below HXB.out hb); have mHGB_ := Aside0.mk (foot_below HGB.out hb); have mHM_ := Aside0.mk (foot_below HM.out hb); have mHB_ := Aside0.mk (HB.out.trans (hb.mono HB.out.size)); have mHQ_ := Aside0.mk (Nat.le_trans HQ.out hb.size); clear FA FW HXB HGB HM HB HQ; have FA := mFA_; have FW := mFW_; have HXB := mHXB_; have HGB := mHGB_; have HM := mHM_; have HB := mHB_; have HQ := mHQ_; clear mFA_ mFW_ mHXB_ mHGB_ mHM_ mHB_ mHQ_; have hx0 := (blk_cell FA.out.now.1 0).trans (show _ = some (.int .i64 a0_0) from rfl); have hx1 := (blk_cell FA.out.now.1 1).trans (show _ = some (.slice A0_1 l0_1.length c0_1) from rfl); have hw0 := (blk_cell FW.out.now.1 0).trans (show _ = some (.int .i64 s1) from rfl); have hw1 := (blk_cell FW.out.now.1 1).trans (show _ = some (.slice A4 s2.length c4) from rfl); have hy0 := (blk_cell HXB.out.now 0).trans (show _ = some (.int .i64 a0_0) from rfl); have hy1 := (blk_cell HXB.out.now 1).trans (show _ = some (.slice A5 x.length c5) from rfl); have hg0 := (blk_cell HGB.out.now 0).trans (show _ = some (.int .i64 s1) from rfl); have hg1 := (blk_cell HGB.out.now 1).trans (show _ = some (.slice A7 s2.length c7) from rfl); clear hb)
  go_upto_region 25 with (first
   | (go_at_call 20; (with_reducible refine (laws_toAig.calls kf a0_0 A0_1 c0_1 l0_1 a0_0 x _ FA.out.now.2 hc0_1 hto).mono ?_); rintro e w17 ⟨v17, rfl, hR17, hb⟩; clear hx0 hx1 hw0 hw1 hy0 hy1 hg0 hg1; have mFA_ := Aside0.mk (foot_below FA.out hb); have mFW_ := Aside0.mk (foot_below FW.out hb); have mHXB_ := Aside0.mk (foot_below HXB.out hb); have mHGB_ := Aside0.mk (foot_below HGB.out hb); have mHM_ := Aside0.mk (foot_below HM.out hb); have mHB_ := Aside0.mk (HB.out.trans (hb.mono HB.out.size)); have mHQ_ := Aside0.mk (Nat.le_trans HQ.out hb.size); clear FA FW HXB HGB HM HB HQ; have FA := mFA_; have FW := mFW_; have HXB := mHXB_; have HGB := mHGB_; have HM := mHM_; have HB := mHB_; have HQ := mHQ_; clear mFA_ mFW_ mHXB_ mHGB_ mHM_ mHB_ mHQ_; have hx0 := (blk_cell FA.out.now.1 0).trans (show _ = some (.int .i64 a0_0) from rfl); have hx1 := (blk_cell FA.out.now.1 1).trans (show _ = some (.slice A0_1 l0_1.length c0_1) from rfl); have hw0 := (blk_cell FW.out.now.1 0).trans (show _ = some (.int .i64 s1) from rfl); have hw1 := (blk_cell FW.out.now.1 1).trans (show _ = some (.slice A4 s2.length c4) from rfl); have hy0 := (blk_cell HXB.out.now 0).trans (show _ = some (.int .i64 a0_0) from rfl); have hy1 := (blk_cell HXB.out.now 1).trans (show _ = some (.slice A5 x.length c5) from rfl); have hg0 := (blk_cell HGB.out.now 0).trans (show _ = some (.int .i64 s1) from rfl); have hg1 := (blk_cell HGB.out.now 1).trans (show _ = some (.slice A7 s2.length c7) from rfl); clear hb; obtain ⟨A17, c17, ev_, hl17, hC17⟩ := Kd.R_reads hR17; clear hR17; subst ev_)
   | (go_at_call 42; (with_reducible refine (impl_Tseitin.calls kf a0_0 A17 c17 x a1 s1 s2 s3 _ hC17 hl17 him).mono ?_); rintro e w18 ⟨v18, rfl, hS18, hb⟩; clear hC17 hl17; clear hx0 hx1 hw0 hw1 hy0 hy1 hg0 hg1; have mFA_ := Aside0.mk (foot_below FA.out hb); have mFW_ := Aside0.mk (foot_below FW.out hb); have mHXB_ := Aside0.mk (foot_below HXB.out hb); have mHGB_ := Aside0.mk (foot_below HGB.out hb); have mHM_ := Aside0.mk (foot_below HM.out hb); have mHB_ := Aside0.mk (HB.out.trans (hb.mono HB.out.size)); have mHQ_ := Aside0.mk (Nat.le_trans HQ.out hb.size); clear FA FW HXB HGB HM HB HQ; have FA := mFA_; have FW := mFW_; have HXB := mHXB_; have HGB := mHGB_; have HM := mHM_; have HB := mHB_; have HQ := mHQ_; clear mFA_ mFW_ mHXB_ mHGB_ mHM_ mHB_ mHQ_; have hx0 := (blk_cell FA.out.now.1 0).trans (show _ = some (.int .i64 a0_0) from rfl); have hx1 := (blk_cell FA.out.now.1 1).trans (show _ = some (.slice A0_1 l0_1.length c0_1) from rfl); have hw0 := (blk_cell FW.out.now.1 0).trans (show _ = some (.int .i64 s1) from rfl); have hw1 := (blk_cell FW.out.now.1 1).trans (show _ = some (.slice A4 s2.length c4) from rfl); have hy0 := (blk_cell HXB.out.now 0).trans (show _ = some (.int .i64 a0_0) from rfl); have hy1 := (blk_cell HXB.out.now 1).trans (show _ = some (.slice A5 x.length c5) from rfl); have hg0 := (blk_cell HGB.out.now 0).trans (show _ = some (.int .i64 s1) from rfl); have hg1 := (blk_cell HGB.out.now 1).trans (show _ = some (.slice A7 s2.length c7) from rfl); clear hb; obtain ⟨A8, c8, ev8, hl8, hC8⟩ := Kd.S_reads hS18; clear hS18; subst ev8; have HC8 := Aside0.mk hC8; have HL8 := Aside0.mk hl8; clear hC8 hl8)
   | ((with_reducible refine gate_dst (N := 14) rfl ?_); refine box_event ?hg (N := 14) ?hd (cs := #[.int .i64 0, .slice none 0 0]) (t := 67) ?hr ?_; (case hd => rfl); (case hg => rfl); (case hr => first | (go_simp; done) | (go_simp; rfl)); intro gb9 hgw wb9 hbox hbb; have hcz0 := (blk_cell hbox 0).trans (show _ = some (.int .i64 0) from rfl); have hcz1 := (blk_cell hbox 1).trans (show _ = some (.slice none 0 0) from rfl); have hfz0 := blk_frozen hbox 0; have hfz1 := blk_frozen hbox 1; have hgw_ := Aside0.mk hgw; clear hgw; have hgw := hgw_; clear hgw_)
   | ((with_reducible refine gate_store (t := 67) (p := 14) rfl ?_); refine store_event (t := 67) (p := 14) (v := ?vo_14) (w1 := (wb9.setCell ⟨gb9, 0, none⟩ (.int .i64 s1)).setCell ⟨gb9, 1, none⟩ (.slice A8 s2.length c8)) ?hg ?ho ?hn ?hr ?_; (case ho => rfl); (case hg => rfl); (case hn => rfl); (case hr => first | (go_simp; done) | (go_simp; rfl)); clear hcz0 hcz1 hfz0 hfz1; intro w19 hw_; obtain ⟨hbk, hb⟩ := box2 (t := 67) (a := .int .i64 s1) (v := .slice A8 s2.length c8) hgw.out hbox hbb; rw [← hw_] at hbk hb; clear hw_ hbox hbb; clear hx0 hx1 hw0 hw1 hy0 hy1 hg0 hg1; have mFA_ := Aside0.mk (foot_below FA.out hb); have mFW_ := Aside0.mk (foot_below FW.out hb); have mHXB_ := Aside0.mk (foot_below HXB.out hb); have mHGB_ := Aside0.mk (foot_below HGB.out hb); have mHM_ := Aside0.mk (foot_below HM.out hb); have mHB_ := Aside0.mk (HB.out.trans (hb.mono HB.out.size)); have mHQ_ := Aside0.mk (Nat.le_trans HQ.out hb.size); clear FA FW HXB HGB HM HB HQ; have FA := mFA_; have FW := mFW_; have HXB := mHXB_; have HGB := mHGB_; have HM := mHM_; have HB := mHB_; have HQ := mHQ_; clear mFA_ mFW_ mHXB_ mHGB_ mHM_ mHB_ mHQ_; have hx0 := (blk_cell FA.out.now.1 0).trans (show _ = some (.int .i64 a0_0) from rfl); have hx1 := (blk_cell FA.out.now.1 1).trans (show _ = some (.slice A0_1 l0_1.length c0_1) from rfl); have hw0 := (blk_cell FW.out.now.1 0).trans (show _ = some (.int .i64 s1) from rfl); have hw1 := (blk_cell FW.out.now.1 1).trans (show _ = some (.slice A4 s2.length c4) from rfl); have hy0 := (blk_cell HXB.out.now 0).trans (show _ = some (.int .i64 a0_0) from rfl); have hy1 := (blk_cell HXB.out.now 1).trans (show _ = some (.slice A5 x.length c5) from rfl); have hg0 := (blk_cell HGB.out.now 0).trans (show _ = some (.int .i64 s1) from rfl); have hg1 := (blk_cell HGB.out.now 1).trans (show _ = some (.slice A7 s2.length c7) from rfl); have HC8b := Aside0.mk (Kd.C_below HC8.out hb); clear HC8; have hu0 := (blk_cell hbk 0).trans (show _ = some (.int .i64 s1) from rfl); have hu1 := (blk_cell hbk 1).trans (show _ = some (.slice A8 s2.length c8) from rfl); clear hgw hb hbk))
  go_upto_region 28 with (go_at_call 43; (with_reducible refine (laws_eqCnf.calls kf s1 A8 c8 s2 s1 A4 c4 s2 true _ HC8b.out HL8.out FW.out.now.2 HL4.out heb).mono ?_); rintro e w20 ⟨rfl, hb⟩; clear HC8b hu0 hu1; clear hx0 hx1 hw0 hw1 hy0 hy1 hg0 hg1; have mFA_ := Aside0.mk (foot_below FA.out hb); have mFW_ := Aside0.mk (foot_below FW.out hb); have mHXB_ := Aside0.mk (foot_below HXB.out hb); have mHGB_ := Aside0.mk (foot_below HGB.out hb); have mHM_ := Aside0.mk (foot_below HM.out hb); have mHB_ := Aside0.mk (HB.out.trans (hb.mono HB.out.size)); have mHQ_ := Aside0.mk (Nat.le_trans HQ.out hb.size); clear FA FW HXB HGB HM HB HQ; have FA := mFA_; have FW := mFW_; have HXB := mHXB_; have HGB := mHGB_; have HM := mHM_; have HB := mHB_; have HQ := mHQ_; clear mFA_ mFW_ mHXB_ mHGB_ mHM_ mHB_ mHQ_; have hx0 := (blk_cell FA.out.now.1 0).trans (show _ = some (.int .i64 a0_0) from rfl); have hx1 := (blk_cell FA.out.now.1 1).trans (show _ = some (.slice A0_1 l0_1.length c0_1) from rfl); have hw0 := (blk_cell FW.out.now.1 0).trans (show _ = some (.int .i64 s1) from rfl); have hw1 := (blk_cell FW.out.now.1 1).trans (show _ = some (.slice A4 s2.length c4) from rfl); have hy0 := (blk_cell HXB.out.now 0).trans (show _ = some (.int .i64 a0_0) from rfl); have hy1 := (blk_cell HXB.out.now 1).trans (show _ = some (.slice A5 x.length c5) from rfl); have hg0 := (blk_cell HGB.out.now 0).trans (show _ = some (.int .i64 s1) from rfl); have hg1 := (blk_cell HGB.out.now 1).trans (show _ = some (.slice A7 s2.length c7) from rfl); clear hb)
  go_wp2_with (go_at_call 45; (with_reducible refine (heldC_at kf s1 A7 c7 s2.length A15 c15 m2 1 m1 _ HEM.out HLM.out HM.out.now hhb).mono ?_); rintro e w21 ⟨rfl, hb⟩; clear hx0 hx1 hw0 hw1 hy0 hy1 hg0 hg1; have mFA_ := Aside0.mk (foot_below FA.out hb); have mFW_ := Aside0.mk (foot_below FW.out hb); have mHXB_ := Aside0.mk (foot_below HXB.out hb); have mHGB_ := Aside0.mk (foot_below HGB.out hb); have mHM_ := Aside0.mk (foot_below HM.out hb); have mHB_ := Aside0.mk (HB.out.trans (hb.mono HB.out.size)); have mHQ_ := Aside0.mk (Nat.le_trans HQ.out hb.size); clear FA FW HXB HGB HM HB HQ; have FA := mFA_; have FW := mFW_; have HXB := mHXB_; have HGB := mHGB_; have HM := mHM_; have HB := mHB_; have HQ := mHQ_; clear mFA_ mFW_ mHXB_ mHGB_ mHM_ mHB_ mHQ_; have hx0 := (blk_cell FA.out.now.1 0).trans (show _ = some (.int .i64 a0_0) from rfl); have hx1 := (blk_cell FA.out.now.1 1).trans (show _ = some (.slice A0_1 l0_1.length c0_1) from rfl); have hw0 := (blk_cell FW.out.now.1 0).trans (show _ = some (.int .i64 s1) from rfl); have hw1 := (blk_cell FW.out.now.1 1).trans (show _ = some (.slice A4 s2.length c4) from rfl); have hy0 := (blk_cell HXB.out.now 0).trans (show _ = some (.int .i64 a0_0) from rfl); have hy1 := (blk_cell HXB.out.now 1).trans (show _ = some (.slice A5 x.length c5) from rfl); have hg0 := (blk_cell HGB.out.now 0).trans (show _ = some (.int .i64 s1) from rfl); have hg1 := (blk_cell HGB.out.now 1).trans (show _ = some (.slice A7 s2.length c7) from rfl); clear hb)
  go_ret
  exact ⟨rfl, HB.out⟩
 ·rw [if_neg hc] at h
  cases h
end Go.Proofs.Ytcmkkoggdcjceaa.PFnExactTseitin
end
section
set_option linter.unusedVariables false
set_option linter.unusedSimpArgs false
namespace Go.Proofs.Ytcmkkoggdcjceaa.Reads
open Go.RowKit Go.ChangeShapes Go.WideShapes Go.Deep Go.Proofs.YtcmkkoggdcjceaaW.PrintWords
def ReadsN (P : Program) (n : Nat) (t : TypeId) {α : Type} (d : Kd α) (wf : α → Prop) : Prop :=
 ∀ (H : Type) (enc : TypeId × Value → H) (w : World) (base : Nat) (spare : Nat → Bool) (held : Bool) (cs : List Value) (x : DataW H × List MemPlace),
  DataW.trod enc P w base spare held n t cs = some x → (x.1.weights P t).all (· ≤ reachBytes) = true → ∃ a : α, d.K w a cs ∧ wf a
def Reads (P : Program) (t : TypeId) {α : Type} (d : Kd α) (wf : α → Prop) : Prop := ∀ n, ReadsN P n t d wf
theorem wf_i64 {z : Int} (h : (Lit.int .i64 z).wf = true) : -9223372036854775808 ≤ z ∧ z ≤ 9223372036854775807 := by
 simp only [Lit.wf, Bool.and_eq_true, decide_eq_true_eq] at h
 exact h
def WFI (z : Int) : Prop := -9223372036854775808 ≤ z ∧ z ≤ 9223372036854775807
def WFL {α : Type} (b : Nat) (wf : α → Prop) (l : List α) : Prop := l.length * b ≤ 140737488351232 ∧ ∀ x ∈ l, wf x
theorem int {P : Program} {n : Nat} {t : TypeId} (ht : P.underlying t = some (.int .i64)) : ReadsN P n t (Kd.int .i64) WFI := by
 intro H enc w base spare held cs x h _
 obtain ⟨z, rfl, rfl, hw⟩ := DataW.trod_int ht h
 exact ⟨z, rfl, wf_i64 hw⟩
theorem all_of {H : Type} {P : Program} {e : TypeId} : ∀ {l : List (DataW H)}, (DataW.weightsAll P e l).all (· ≤ reachBytes) = true → ∀ d ∈ l, (d.weights P e).all (· ≤ reachBytes) = true
 | [], _, d, hd => by cases hd
 | y :: r, h, d, hd => by
  simp only [DataW.weightsAll, List.all_append, Bool.and_eq_true] at h
  rcases List.mem_cons.1 hd with rfl | hd
  ·exact h.1
  ·exact all_of h.2 d hd
theorem slice {P : Program} {n : Nat} {t e : TypeId} {α : Type} {d : Kd α} {wf : α → Prop} {b : Nat} (ht : P.underlying t = some (.slice e)) (hc : P.cellsOf e = d.sz) (hb : P.bytesOf e = b) (he : ∀ m, m < n → ReadsN P m e d wf) :
  ReadsN P n t (Kd.slice e d) (WFL b wf) := by
 intro H enc w base spare held cs x h hr
 cases n with
 | zero => simp [DataW.trod] at h
 | succ n =>
  have h' := h
  simp only [DataW.trod, ht] at h'
  match cs, h' with
  | [.slice none 0 0], h' =>
   refine ⟨[], ⟨none, 0, rfl, Nat.le_refl _, rfl, by simp, fun h => absurd h (Nat.lt_irrefl 0)⟩, by simp, fun x hx => by cases hx⟩
  | [.slice (some a) len cap], h' =>
   simp only at h'
   split at h'
   ·rename_i hcond
    obtain ⟨elems, hel, h2⟩ := Option.bind_eq_some_iff.1 h'
    obtain ⟨rest, hrest, rfl⟩ := Option.map_eq_some_iff.1 h2
    simp only [DataW.weights, ht, List.all_cons, List.all_append, Bool.and_eq_true, hb, List.length_map, decide_eq_true_eq] at hr
    have hlen : elems.length = len := by simpa using mapM_some_length hel
    have hget : ∀ i, i < len → ∃ y : α, wf y ∧ ∃ c, c.length = d.sz ∧ d.K w y c ∧ ∀ j u, c[j]? = some u → w.cell? (a.add (i * d.sz + j)) = some u := by
     intro i hi
     have h3 := mapM_some_get hel i i (by simp [hi])
     rw [List.getElem?_eq_getElem (by omega)] at h3
     obtain ⟨cs', hcs, htr⟩ := Option.bind_eq_some_iff.1 h3
     obtain ⟨y, hK, hw⟩ := he n (Nat.lt_succ_self n) H enc w base spare held cs' _ htr (all_of hr.2.1 _ (List.mem_map.2 ⟨elems[i]'(by omega), List.getElem_mem _, rfl⟩))
     obtain ⟨_, hcl, hat⟩ := World.cells?_some hcs
     rw [hc] at hcl hat
     refine ⟨y, hw, cs', hcl, hK, fun j u hj => ?_⟩
     have hjl : j < d.sz := by
      rw [← hcl]
      exact (List.getElem?_eq_some_iff.1 hj).1
     rw [← Deep.add_add, hat j hjl, hj]
    rcases Nat.eq_zero_or_pos len with hz | hz
    ·subst hz
     refine ⟨[], ⟨some a, cap, rfl, Nat.zero_le _, rfl, by simp, fun h => absurd h (Nat.lt_irrefl 0)⟩, by simp, fun x hx => by cases hx⟩
    have hinh : Inhabited α := ⟨(hget 0 hz).choose⟩
    obtain ⟨f, hf⟩ := choose_lt hget
    refine ⟨(List.range len).map f, ⟨some a, cap, ?_, ?_, ?_, ?_, ?_⟩, ?_, ?_⟩
    ·simp
    ·simpa using hcond.2.1
    ·simp
    ·have := hcond.2.2
     have := hcond.2.1
     simp [maxLen] at *
     omega
    ·intro _
     refine ⟨a, rfl, fun j p hj => ?_⟩
     have hjl : j < len := by
      have := (List.getElem?_eq_some_iff.1 hj).1
      simpa using this
     simp [hjl] at hj
     subst hj
     obtain ⟨_, c, h1, h2, h3⟩ := hf j hjl
     exact ⟨c, h1, h2, h3⟩
    ·have h4 := hr.1
     simp only [reachBytes] at h4
     have : len * b ≤ (elems.length + rest.length) * b := Nat.mul_le_mul_right _ (by omega)
     simp
     omega
    ·intro y hy
     obtain ⟨i, hi, rfl⟩ := List.mem_map.1 hy
     exact (hf i (by simpa using hi)).1
   ·cases h'
theorem intR {P : Program} {t : TypeId} (ht : P.underlying t = some (.int .i64)) : Reads P t (Kd.int .i64) WFI := fun _ => int ht
theorem sliceR {P : Program} {t e : TypeId} {α : Type} {d : Kd α} {wf : α → Prop} {b : Nat} (ht : P.underlying t = some (.slice e)) (hc : P.cellsOf e = d.sz) (hb : P.bytesOf e = b) (he : Reads P e d wf) : Reads P t (Kd.slice e d) (WFL b wf) :=
 fun _ => slice ht hc hb (fun m _ => he m)
def FieldsN (P : Program) (n : Nat) (fs : List Field) (off : Nat) {α : Type} (d : Kd α) (wf : α → Prop) : Prop :=
 ∀ (H : Type) (enc : TypeId × Value → H) (w : World) (base : Nat) (spare : Nat → Bool) (held : Bool) (cs : List Value) (xs : List (DataW H × List MemPlace)),
  (fs.mapM fun f => DataW.trod enc P w base spare held n f.type ((cs.drop f.offset).take (P.cellsOf f.type))) = some xs →
  (DataW.weightsEach P (fs.map (·.type)) (xs.map (·.1))).all (· ≤ reachBytes) = true → cs.length = off + d.sz → ∃ a : α, d.K w a (cs.drop off) ∧ wf a
theorem last {P : Program} {n : Nat} {f : Field} {off : Nat} {α : Type} {d : Kd α} {wf : α → Prop} (ho : f.offset = off) (hc : P.cellsOf f.type = d.sz) (h : ReadsN P n f.type d wf) : FieldsN P n [f] off d wf := by
 intro H enc w base spare held cs xs hm hr hl
 simp only [List.mapM_cons, List.mapM_nil, Option.bind_eq_bind, Option.bind_eq_some_iff, Option.pure_def, Option.some.injEq] at hm
 obtain ⟨y, hy, _, rfl, rfl⟩ := hm
 rw [ho, hc, List.take_of_length_le (by rw [List.length_drop]; omega)] at hy
 simp only [List.map_cons, List.map_nil, DataW.weightsEach, List.append_nil] at hr
 exact h H enc w base spare held _ _ hy hr
theorem more {P : Program} {n : Nat} {f : Field} {fs : List Field} {off : Nat} {α β : Type} {d : Kd α} {d' : Kd β} {wf : α → Prop} {wf' : β → Prop} (ho : f.offset = off) (hc : P.cellsOf f.type = d.sz)
  (h : ReadsN P n f.type d wf) (h' : FieldsN P n fs (off + d.sz) d' wf') : FieldsN P n (f :: fs) off (Kd.pair d d') (fun x => wf x.1 ∧ wf' x.2) := by
 intro H enc w base spare held cs xs hm hr hl
 simp only [List.mapM_cons, Option.bind_eq_bind, Option.bind_eq_some_iff, Option.pure_def, Option.some.injEq] at hm
 obtain ⟨y, hy, ys, hys, rfl⟩ := hm
 simp only [List.map_cons, DataW.weightsEach, List.all_append, Bool.and_eq_true] at hr
 have hl' : cs.length = off + (d.sz + d'.sz) := hl
 rw [ho, hc] at hy
 obtain ⟨a, hK, hw⟩ := h H enc w base spare held _ _ hy hr.1
 obtain ⟨b, hK', hw'⟩ := h' H enc w base spare held cs ys hys hr.2 (by omega)
 refine ⟨(a, b), ⟨_, _, ?_, hK, hK'⟩, hw, hw'⟩
 have := (List.take_append_drop d.sz (cs.drop off)).symm
 rwa [List.drop_drop] at this
theorem struct {P : Program} {n : Nat} {t : TypeId} {fs : Array Field} {α β : Type} {d : Kd α} {wf : α → Prop} (f : β → α) (g : α → β) (hfg : ∀ a, f (g a) = a) (ht : P.underlying t = some (.struct fs)) (hc : P.cellsOf t = d.sz)
  (h : ∀ m, m < n → FieldsN P m fs.toList 0 d wf) : ReadsN P n t (Kd.iso d f) (fun x => wf (f x)) := by
 intro H enc w base spare held cs x hx hr
 cases n with
 | zero => simp [DataW.trod] at hx
 | succ n =>
  simp only [DataW.trod, ht] at hx
  have hx' : cs.length = P.cellsOf t ∧ ∃ xs, (fs.toList.mapM fun f => DataW.trod enc P w base spare held n f.type ((cs.drop f.offset).take (P.cellsOf f.type))) = some xs ∧ (.agg (xs.map (·.1)), xs.flatMap (·.2)) = x := by
   split at hx <;> simp_all
  obtain ⟨hl, xs, hm, rfl⟩ := hx'
  simp only [DataW.weights, ht] at hr
  obtain ⟨a, hK, hw⟩ := h n (Nat.lt_succ_self n) H enc w base spare held cs xs hm hr (by rw [hl, hc]; omega)
  rw [List.drop_zero] at hK
  exact ⟨g a, by show d.K w (f (g a)) cs; rw [hfg]; exact hK, by show wf (f (g a)); rw [hfg]; exact hw⟩
theorem each_of {H : Type} {P : Program} : ∀ {ts : List TypeId} {ds : List (DataW H)} {j : Nat} {t : TypeId} {d : DataW H}, (DataW.weightsEach P ts ds).all (· ≤ reachBytes) = true → ts[j]? = some t → ds[j]? = some d → (d.weights P t).all (· ≤ reachBytes) = true
 | [], _, _, _, _, _, h, _ => by simp at h
 | _ :: _, [], _, _, _, _, _, h => by simp at h
 | t0 :: ts, d0 :: ds, 0, t, d, h, ht, hd => by
  simp only [List.getElem?_cons_zero, Option.some.injEq] at ht hd
  subst ht hd
  simp only [DataW.weightsEach, List.all_append, Bool.and_eq_true] at h
  exact h.1
 | t0 :: ts, d0 :: ds, j + 1, t, d, h, ht, hd => by
  simp only [DataW.weightsEach, List.all_append, Bool.and_eq_true] at h
  exact each_of (j := j) h.2 (by simpa using ht) (by simpa using hd)
theorem arg {H : Type} {enc : TypeId × Value → H} {P : Program} {W : World} {base : Nat} {spare : Nat → Bool} {held : Bool} {t : TypeId} {v : Value} {d : DataW H} {ps : List MemPlace} {ts : List TypeId} {ds : List (DataW H)} {j : Nat} {α : Type} {k : Kd α} {wf : α → Prop}
  (hk : Reads P t k wf) (hsz : (DataW.weightsEach P ts ds).all (· ≤ reachBytes) = true) (ht : ts[j]? = some t) (hd : ds[j]? = some d) (h : DataW.Trod enc P W base spare held t v d ps) : ∃ a : α, k.K W a v.cells.toList ∧ wf a := by
 obtain ⟨fuel, hf⟩ := h
 exact hk fuel H enc W base spare held _ _ hf (each_of hsz ht hd)
end Go.Proofs.Ytcmkkoggdcjceaa.Reads
end
section
set_option linter.unusedVariables false
namespace Go.Proofs.Ytcmkkoggdcjceaa.PFnExactTseitin
open Go.RowKit Go.Proofs.YtcmkkoggdcjceaaW.PrintWords Go.Proofs.YtcmkkoggdcjceaaW.PrintLast Go.Proofs.Ytcmkkoggdcjceaa
def wf133 (x : S133) : Prop := Reads.WFI x.f0 ∧ (Reads.WFI x.f1)
def laws_FnExactTseitin.Pure : Prop := ∀ (a0_0 : Int) (l0_1 : List (S133)) (a1 : Int), Reads.WFI a0_0 → (Reads.WFL 16 wf133) l0_1 → Reads.WFI a1 → ∃ k, laws_FnExactTseitin.f k a0_0 l0_1 a1 = some true
theorem rk133 : Reads.Reads Try.prog 133 k133 wf133 := fun _ => Reads.struct (fun x : S133 => (x.f0, x.f1)) (fun p => ⟨p.1, p.2⟩) (fun _ => rfl) Try.underlying133 (by kernel_rfl) (fun m _ => (Reads.more rfl (by kernel_rfl) ((Reads.intR Try.underlying3) m) (Reads.last rfl (by kernel_rfl) ((Reads.intR Try.underlying3) m))))
end Go.Proofs.Ytcmkkoggdcjceaa.PFnExactTseitin
end
section
set_option linter.unusedVariables false
set_option linter.unusedSimpArgs false
namespace Go.Proofs.Ytcmkkoggdcjceaa.Plain
open Go.RowKit Go.Proofs.YtcmkkoggdcjceaaW.PrintWords
section
variable {α β : Type}
theorem ifp {c : Prop} [Decidable c] {f g : Nat → Option α} {r : α} (h : c) (k : Ev f r) : Ev (fun n => if c then f n else g n) r := by
 obtain ⟨K, hK⟩ := k
 exact ⟨K, fun n hn => by simp only [if_pos h]; exact hK n hn⟩
theorem ifn {c : Prop} [Decidable c] {f g : Nat → Option α} {r : α} (h : ¬ c) (k : Ev g r) : Ev (fun n => if c then f n else g n) r := by
 obtain ⟨K, hK⟩ := k
 exact ⟨K, fun n hn => by simp only [if_neg h]; exact hK n hn⟩
theorem bnd {g : Nat → Option α} {f : Nat → α → Option β} {a : α} {r : β} (h : Ev g a) (k : Ev (fun n => f n a) r) : Ev (fun n => (g n).bind (f n)) r := Ev.bind h k
theorem bnd0 {g : Option α} {f : Nat → α → Option β} {a : α} {r : β} (h : g = some a) (k : Ev (fun n => f n a) r) : Ev (fun n => g.bind (f n)) r := by
 obtain ⟨K, hK⟩ := k
 exact ⟨K, fun n hn => by rw [h]; exact hK n hn⟩
theorem stp {g f : Nat → Option α} {r : α} (h : ∀ k, g (k + 1) = f k) (k : Ev f r) : Ev g r := Ev.step h k
theorem evc {g f : Nat → Option α} {r : α} (h : ∀ k, g k = f k) (k : Ev f r) : Ev g r := Ev.congr h k
theorem sm (r : α) : Ev (fun _ => some r) r := Ev.now r
theorem uniq {g : Nat → Option α} {r q : α} (h : Ev g r) (k : Ev g q) : r = q := by
 obtain ⟨K, hK⟩ := h
 obtain ⟨L, hL⟩ := k
 have h1 := hK (K + L) (by omega)
 have h2 := hL (K + L) (by omega)
 exact Option.some.inj (h1.symm.trans h2)
end
theorem up {i n : Int} (h0 : 0 ≤ i) (h : i < n) (hn : n ≤ 9223372036854775807) : wrap64 (i + 1) = i + 1 := by
 unfold wrap64
 omega
theorem w64 {x : Int} (h0 : -9223372036854775808 ≤ x) (h : x ≤ 9223372036854775807) : wrap64 x = x := by
 unfold wrap64
 omega
theorem set_take {α β : Type} (f : α → β) (xs : List α) (out : List β) (i : Nat) (x : α) (hx : xs[i]? = some x) (hl : out.length = xs.length) (h : out.take i = (xs.take i).map f) :
  (out.set i (f x)).take (i + 1) = (xs.take (i + 1)).map f := by
 have hi : i < xs.length := (List.getElem?_eq_some_iff.1 hx).1
 rw [List.take_succ_eq_append_getElem (by simp; omega), List.take_succ_eq_append_getElem hi, List.map_append, List.map_singleton, ← h]
 congr 1
 ·rw [List.take_set]
  apply List.set_eq_of_length_le
  simp
  omega
 ·rw [List.getElem_set_self]
  rw [(List.getElem?_eq_some_iff.1 hx).2]
theorem copy {α β : Type} (f : α → β) (xs : List α) (L : Int → List β → Nat → Option (List β))
  (hend : ∀ out, Ev (L (xs.length : Int) out) out)
  (hstep : ∀ (i : Nat) (out : List β) (r : List β) (x : α), xs[i]? = some x → out.length = xs.length → Ev (L ((i : Int) + 1) (out.set i (f x))) r → Ev (L (i : Int) out) r) :
  ∀ out, out.length = xs.length → Ev (L 0 out) (xs.map f) := by
 have key : ∀ (d i : Nat) (out : List β), i + d = xs.length → out.length = xs.length → out.take i = (xs.take i).map f → Ev (L (i : Int) out) (xs.map f) := by
  intro d
  induction d with
  | zero =>
   intro i out hd hl ht
   have hi : i = xs.length := by omega
   subst hi
   rw [List.take_of_length_le (by omega), List.take_of_length_le (by omega)] at ht
   subst ht
   exact hend _
  | succ d ih =>
   intro i out hd hl ht
   have hi : i < xs.length := by omega
   have hx : xs[i]? = some xs[i] := List.getElem?_eq_getElem hi
   refine hstep i out _ _ hx hl ?_
   have := ih (i + 1) (out.set i (f xs[i])) (by omega) (by simpa using hl) (set_take f xs out i _ hx hl ht)
   rwa [show ((i + 1 : Nat) : Int) = (i : Int) + 1 by omega] at this
 intro out hl
 have := key xs.length 0 out (by omega) hl (by simp)
 simpa using this
theorem same {α : Type} (xs : List α) (L : Int → Nat → Option Bool)
  (hend : Ev (L (xs.length : Int)) true)
  (hstep : ∀ (i : Nat) (x : α), xs[i]? = some x → Ev (L ((i : Int) + 1)) true → Ev (L (i : Int)) true) : Ev (L 0) true := by
 have key : ∀ (d i : Nat), i + d = xs.length → Ev (L (i : Int)) true := by
  intro d
  induction d with
  | zero =>
   intro i hd
   have hi : i = xs.length := by omega
   subst hi
   exact hend
  | succ d ih =>
   intro i hd
   have hi : i < xs.length := by omega
   refine hstep i _ (List.getElem?_eq_getElem hi) ?_
   have := ih (i + 1) (by omega)
   rwa [show ((i + 1 : Nat) : Int) = (i : Int) + 1 by omega] at this
 simpa using key xs.length 0 (by omega)
theorem allL {α : Type} (xs : List α) (q : α → Bool) (L : Int → Nat → Option Bool)
  (hend : Ev (L (xs.length : Int)) true)
  (hstep : ∀ (i : Nat) (x : α) (r : Bool), xs[i]? = some x → Ev (L ((i : Int) + 1)) r → Ev (L (i : Int)) (q x && r)) : Ev (L 0) (xs.all q) := by
 have key : ∀ (d i : Nat), i + d = xs.length → Ev (L (i : Int)) ((xs.drop i).all q) := by
  intro d
  induction d with
  | zero =>
   intro i hd
   have hi : i = xs.length := by omega
   subst hi
   rw [List.drop_length]
   exact hend
  | succ d ih =>
   intro i hd
   have hi : i < xs.length := by omega
   have := ih (i + 1) (by omega)
   rw [show ((i + 1 : Nat) : Int) = (i : Int) + 1 by omega] at this
   rw [List.drop_eq_getElem_cons hi, List.all_cons]
   exact hstep i _ _ (List.getElem?_eq_getElem hi) this
 simpa using key xs.length 0 (by omega)
theorem not_any_not {α : Type} (l : List α) (q : α → Bool) : (!(l.any fun x => !(q x))) = l.all q := by
 induction l with
 | nil => rfl
 | cons a r ih => rw [List.any_cons, List.all_cons, Bool.not_or, Bool.not_not, ih]
theorem getD_some {α : Type} {xs : List α} {i : Nat} {x d : α} (h : xs[i]? = some x) : xs.getD ((i : Int).toNat) d = x := by
 simp [List.getD, h]
end Go.Proofs.Ytcmkkoggdcjceaa.Plain
end
section
set_option linter.unusedVariables false
set_option linter.unusedSimpArgs false
namespace Go.Proofs.Ytcmkkoggdcjceaa.Pure
open Go.RowKit Go.Proofs.Ytcmkkoggdcjceaa Go.Proofs.Ytcmkkoggdcjceaa.PFnExactTseitin Go.Proofs.YtcmkkoggdcjceaaW.PrintWords Go.Proofs.YtcmkkoggdcjceaaW.PrintLast Go.Proofs.Ytcmkkoggdcjceaa.Plain
def eqg (a b : S114) : Bool := a.f0 == b.f0 && (a.f1 == b.f1)
theorem eqg_comm (a b : S114) : (a.f0 == b.f0 && (a.f1 == b.f1)) = eqg b a := by
 unfold eqg
 rw [Bool.eq_iff_iff]
 simp
 constructor
 ·rintro ⟨h1, h2⟩; exact ⟨h1.symm, h2.symm⟩
 ·rintro ⟨h1, h2⟩; exact ⟨h1.symm, h2.symm⟩
def hit (gs : List S114) (g : S114) : Nat → Nat → Bool
 | 0, _ => false
 | d + 1, k => eqg (rd_T114 gs (k : Int)) g || hit gs g d (k + 1)
def bad (a i : Int) (g : S114) : Bool := decide (g.f0 < 2) || (decide (g.f1 ≤ g.f0) || (decide (g.f1 ≥ wrap64 (2 * wrap64 (wrap64 (a + 1) + i))) || (wrap64 (Int.tdiv g.f0 2) == wrap64 (Int.tdiv g.f1 2))))
def good (a : Int) (gs : List S114) : Nat → Nat → Bool
 | 0, _ => true
 | d + 1, i => !(bad a i (rd_T114 gs (i : Int))) && (!(hit gs (rd_T114 gs (i : Int)) i 0) && good a gs d (i + 1))
theorem spec_in (a : Int) (gs : List S114) (hl : gs.length ≤ 400) (g : S114) (i : Nat) (hi : i < gs.length) (r : Bool) (hr : Ev (fun k => spec_AigOK.l0 k ((i : Int) + 1) a gs) r) (d : Nat) : ∀ k0 : Nat, k0 + d = i →
  Ev (fun k => spec_AigOK.l1 k (i : Int) (k0 : Int) a gs g.f0 g.f1) (!(hit gs g d k0) && r) := by
 induction d with
 | zero =>
  intro k0 hk
  refine stp (fun _ => spec_AigOK.l1.eq_2 ..) (ifn (by omega) ?_)
  rw [up (by omega) (by omega : (i : Int) < (gs.length : Int)) (by omega)]
  simpa [hit] using hr
 | succ d ih =>
  intro k0 hk
  refine stp (fun _ => spec_AigOK.l1.eq_2 ..) (ifp (by omega) (ifp (by omega) (ifp (by omega) ?_)))
  rw [up (by omega) (by omega : (k0 : Int) < (gs.length : Int)) (by omega)]
  have hih := ih (k0 + 1) (by omega)
  rw [show ((k0 + 1 : Nat) : Int) = (k0 : Int) + 1 by omega] at hih
  simp only [hit]
  cases he : eqg (rd_T114 gs (k0 : Int)) g with
  | true => exact ifp he (sm _)
  | false =>
   refine ifn (by show ¬ (eqg _ _ = true); rw [he]; simp) ?_
   simpa using hih
theorem spec_loop (a : Int) (gs : List S114) (hl : gs.length ≤ 400) (d : Nat) : ∀ i : Nat, i + d = gs.length → Ev (fun k => spec_AigOK.l0 k (i : Int) a gs) (good a gs d i) := by
 induction d with
 | zero =>
  intro i hi
  exact stp (fun _ => spec_AigOK.l0.eq_2 ..) (ifn (by omega) (sm _))
 | succ d ih =>
  intro i hi
  have hih := ih (i + 1) (by omega)
  rw [show ((i + 1 : Nat) : Int) = (i : Int) + 1 by omega] at hih
  have hin := spec_in a gs hl (rd_T114 gs (i : Int)) i (by omega) _ hih i 0 (by omega)
  refine stp (fun _ => spec_AigOK.l0.eq_2 ..) (ifp (by omega) (ifp (by omega) ?_))
  simp only [good]
  generalize rd_T114 gs (i : Int) = g at *
  have hbad : ∀ b : Bool, b = bad a i g → Ev (fun k => spec_AigOK.j2 k (i : Int) b a gs g.f0 g.f1) (!(bad a i g) && (!(hit gs g i 0) && good a gs d (i + 1))) := by
   intro b hb
   subst hb
   refine stp (fun _ => spec_AigOK.j2.eq_2 ..) ?_
   cases hb : bad a i g with
   | true => exact ifp rfl (sm _)
   | false => exact ifn (by simp) (by simpa using hin)
  by_cases h1 : g.f0 < 2
  ·exact ifp h1 (hbad true (by simp [bad, h1]))
  ·refine ifn h1 ?_
   by_cases h2 : g.f1 ≤ g.f0
   ·exact ifp h2 (hbad true (by simp [bad, h2]))
   ·refine ifn h2 ?_
    by_cases h3 : g.f1 ≥ wrap64 (2 * wrap64 (wrap64 (a + 1) + (i : Int)))
    ·exact ifp h3 (hbad true (by simp only [bad, decide_eq_true h3]; simp))
    ·exact ifn h3 (hbad _ (by simp only [bad, decide_eq_false h1, decide_eq_false h2, decide_eq_false h3]; simp))
theorem index_loop (gs : List S114) (g : S114) (n : Nat) (hn : n ≤ gs.length) (hl : gs.length ≤ 400) (d : Nat) : ∀ k0 : Nat, k0 + d = n →
  ∃ r : Int, decide (r ≥ 0) = hit gs g d k0 ∧ Ev (fun k => impl_Gate_138.l0 k (gs.take n) ((gs.take n).length : Int) (k0 : Int) g.f0 g.f1) r := by
 have hlen : ((gs.take n).length : Int) = (n : Int) := by simp; omega
 induction d with
 | zero =>
  intro k0 hk
  exact ⟨-1, by simp [hit], stp (fun _ => impl_Gate_138.l0.eq_2 ..) (ifn (by omega) (sm _))⟩
 | succ d ih =>
  intro k0 hk
  obtain ⟨r, hr, hev⟩ := ih (k0 + 1) (by omega)
  rw [show ((k0 + 1 : Nat) : Int) = (k0 : Int) + 1 by omega] at hev
  have hrd : rd_T114 (gs.take n) (k0 : Int) = rd_T114 gs (k0 : Int) := by
   unfold rd_T114
   simp [List.getD, List.getElem?_take, show k0 < n by omega]
  simp only [hit]
  cases he : eqg (rd_T114 gs (k0 : Int)) g with
  | true =>
   refine ⟨k0, by simp, stp (fun _ => impl_Gate_138.l0.eq_2 ..) (ifp (by omega) (ifp (by omega) (ifp (by omega) (ifp ?_ (sm _)))))⟩
   rw [hrd, eqg_comm, he]
  | false =>
   refine ⟨r, by simpa using hr, stp (fun _ => impl_Gate_138.l0.eq_2 ..) (ifp (by omega) (ifp (by omega) (ifp (by omega) (ifn ?_ ?_))))⟩
   ·rw [hrd, eqg_comm, he]; simp
   ·rw [up (by omega) (by omega : (k0 : Int) < (gs.length : Int)) (by omega)]
    exact hev
theorem contains_is (gs : List S114) (g : S114) (n : Nat) (hn : n ≤ gs.length) (hl : gs.length ≤ 400) : Ev (fun k => impl_Gate_115.f k (gs.take n) g.f0 g.f1) (hit gs g n 0) := by
 obtain ⟨r, hr, hev⟩ := index_loop gs g n hn hl n 0 (by omega)
 rw [← hr]
 exact bnd hev (sm _)
theorem impl_loop (a : Int) (gs : List S114) (hl : gs.length ≤ 400) (d : Nat) : ∀ i : Nat, i + d = gs.length → Ev (fun k => impl_isAig.l0 k gs (gs.length : Int) (i : Int) a gs) (good a gs d i) := by
 induction d with
 | zero =>
  intro i hi
  exact stp (fun _ => impl_isAig.l0.eq_2 ..) (ifn (by omega) (sm _))
 | succ d ih =>
  intro i hi
  have hih := ih (i + 1) (by omega)
  rw [show ((i + 1 : Nat) : Int) = (i : Int) + 1 by omega] at hih
  have hc := contains_is gs (rd_T114 gs (i : Int)) i (by omega) hl
  refine stp (fun _ => impl_isAig.l0.eq_2 ..) (ifp (by omega) (ifp (by omega) (ifp (by omega) ?_)))
  simp only [good]
  generalize rd_T114 gs (i : Int) = g at *
  by_cases h1 : g.f0 < 2
  ·refine ifp h1 ?_
   rw [show bad a i g = true by simp [bad, h1]]
   exact sm _
  ·refine ifn h1 ?_
   by_cases h2 : g.f0 ≥ g.f1
   ·refine ifp h2 ?_
    rw [show bad a i g = true by simp [bad, show g.f1 ≤ g.f0 from h2]]
    exact sm _
   ·refine ifn h2 ?_
    have h2' : ¬ g.f1 ≤ g.f0 := h2
    by_cases h3 : g.f1 ≥ wrap64 (2 * wrap64 (wrap64 (a + 1) + (i : Int)))
    ·refine ifp (by rw [Int.add_comm 1 a]; exact h3) ?_
     rw [show bad a i g = true by simp only [bad, decide_eq_true h3]; simp]
     exact sm _
    ·refine ifn (by rw [Int.add_comm 1 a]; exact h3) ?_
     by_cases h4 : wrap64 (Int.tdiv g.f0 2) = wrap64 (Int.tdiv g.f1 2)
     ·refine ifp h4 ?_
      rw [show bad a i g = true by simp only [bad, h4]; simp]
      exact sm _
     ·refine ifn h4 (ifp (by omega) ?_)
      rw [show bad a i g = false by simp only [bad, decide_eq_false h1, decide_eq_false h2', decide_eq_false h3]; simpa using h4]
      rw [Int.toNat_natCast]
      refine bnd hc ?_
      rw [up (by omega) (by omega : (i : Int) < (gs.length : Int)) (by omega)]
      cases hh : hit gs g i 0 with
      | true => exact ifp rfl (sm _)
      | false => exact ifn (by simp) (by simpa using hih)
def ans (a : Int) (gs : List S114) : Bool := decide (0 ≤ a) && (decide (a ≤ 12) && (decide (gs.length ≤ 400) && good a gs gs.length 0))
theorem spec_is (a : Int) (gs : List S114) : Ev (fun k => spec_AigOK.f k a gs) (ans a gs) := by
 have hin : spec_l01In.f a 0 12 = some (decide (0 ≤ a) && decide (a ≤ 12)) := by
  unfold spec_l01In.f
  by_cases h : a ≥ 0
  ·rw [if_pos h, decide_eq_true h, Bool.true_and]
  ·rw [if_neg h, decide_eq_false h, Bool.false_and]
 refine bnd0 hin ?_
 unfold ans
 cases h1 : decide (0 ≤ a) && decide (a ≤ 12) with
 | false =>
  refine ifn (by simp) (stp (fun _ => spec_AigOK.j0.eq_2 ..) (ifp rfl ?_))
  rw [← Bool.and_assoc, h1]
  exact sm _
 | true =>
  refine ifp rfl (stp (fun _ => spec_AigOK.j0.eq_2 ..) ?_)
  rw [← Bool.and_assoc, h1]
  by_cases h2 : gs.length ≤ 400
  ·refine ifn (by simp; omega) ?_
   rw [decide_eq_true h2]
   exact spec_loop a gs h2 gs.length 0 (by omega)
  ·refine ifp (by simp; omega) ?_
   rw [decide_eq_false h2]
   exact sm _
def conv (x : S133) : S114 := ⟨x.f0, x.f1⟩
theorem toS_is (l : List S133) (hl : l.length ≤ 17592186044416) : Ev (fun k => laws_toGateS.f k l) (l.map conv) := by
 refine evc (fun k => laws_toGateS.f.eq_1 ..) (ifp (by omega) (ifp (by omega) ?_))
 refine copy conv l (fun i out k => laws_toGateS.l0 k l out i) ?_ ?_ _ (by simp)
 ·intro out
  refine stp (fun k => laws_toGateS.l0.eq_2 ..) (ifn (by omega) (sm _))
 ·intro i out r x hx hlen hk
  have hi : i < l.length := (List.getElem?_eq_some_iff.1 hx).1
  refine stp (fun k => laws_toGateS.l0.eq_2 ..) (ifp (by omega) (ifp (by omega) ?_))
  rw [show rd_T133 l (i : Int) = x from getD_some hx, up (by omega) (by omega : (i : Int) < (l.length : Int)) (by omega)]
  refine bnd0 rfl (ifp (by omega) ?_)
  rw [Int.toNat_natCast]
  exact hk
theorem to_is (a : Int) (l : List S133) (hl : l.length ≤ 17592186044416) : Ev (fun k => laws_toAig.f k a l) (a, l.map conv) := bnd (toS_is l hl) (sm _)
theorem eqg_self (x : S114) : laws_eqGate.f x.f0 x.f1 x.f0 x.f1 = some true := by
 unfold laws_eqGate.f
 simp
theorem eqS_self (l : List S114) (hl : l.length ≤ 140737488351232) : Ev (fun k => laws_eqGateS.f k l l) true := by
 refine evc (fun k => laws_eqGateS.f.eq_1 ..) (ifp rfl ?_)
 refine same l (fun i k => laws_eqGateS.l0 k l l i) ?_ ?_
 ·exact stp (fun k => laws_eqGateS.l0.eq_2 ..) (ifn (by omega) (sm _))
 ·intro i x hx hk
  have hi : i < l.length := (List.getElem?_eq_some_iff.1 hx).1
  refine stp (fun k => laws_eqGateS.l0.eq_2 ..) (ifp (by omega) (ifp (by omega) (ifp (by omega) ?_)))
  rw [up (by omega) (by omega : (i : Int) < (l.length : Int)) (by omega)]
  exact bnd0 (eqg_self _) (ifp rfl hk)
theorem eq_self (a : Int) (l : List S114) (hl : l.length ≤ 140737488351232) : Ev (fun k => laws_eqAig.f k a l a l) true :=
 evc (fun k => laws_eqAig.f.eq_1 ..) (ifp rfl (bnd (eqS_self l hl) (ifp rfl (sm _))))
theorem isAig_is (a : Int) (gs : List S114) : Ev (fun k => impl_isAig.f k a gs) (ans a gs) := by
 have hin : impl_within.f a 0 12 = some (decide (0 ≤ a) && decide (a ≤ 12)) := by
  unfold impl_within.f
  by_cases h : a ≥ 0
  ·rw [if_pos h, decide_eq_true h, Bool.true_and]
  ·rw [if_neg h, decide_eq_false h, Bool.false_and]
 refine bnd0 hin ?_
 unfold ans
 cases h1 : decide (0 ≤ a) && decide (a ≤ 12) with
 | false =>
  refine ifn (by simp) (stp (fun _ => impl_isAig.j0.eq_2 ..) (ifp rfl ?_))
  rw [← Bool.and_assoc, h1]
  exact sm _
 | true =>
  refine ifp rfl (stp (fun _ => impl_isAig.j0.eq_2 ..) ?_)
  rw [← Bool.and_assoc, h1]
  by_cases h2 : gs.length ≤ 400
  ·refine ifn (by simp; omega) ?_
   rw [decide_eq_true h2]
   exact impl_loop a gs h2 gs.length 0 (by omega)
  ·refine ifp (by simp; omega) ?_
   rw [decide_eq_false h2]
   exact sm _
theorem markG_is (l : List S114) (hl : l.length ≤ 17592186044416) : ∃ m : List S114, Ev (fun k => laws_markGateS.f k l 1) (1 + 2 * (l.length : Int), m) := by
 have key : ∀ (d i : Nat) (x : List S114), i + d = l.length → x.length = l.length → ∃ m : List S114, Ev (fun k => laws_markGateS.l0 k x (1 + 2 * (i : Int)) (i : Int)) (1 + 2 * (l.length : Int), m) := by
  intro d
  induction d with
  | zero =>
   intro i x hi hx
   obtain rfl : i = l.length := by omega
   exact ⟨x, stp (fun k => laws_markGateS.l0.eq_2 ..) (ifn (by omega) (sm _))⟩
  | succ d ih =>
   intro i x hi hx
   obtain ⟨m, m3⟩ := ih (i + 1) ((x.set i ⟨1 + 2 * (i : Int), (rd_T114 x (i : Int)).f1⟩).set i ⟨(rd_T114 (x.set i ⟨1 + 2 * (i : Int), (rd_T114 x (i : Int)).f1⟩) (i : Int)).f0, 1 + 2 * (i : Int) + 1⟩) (by omega) (by simpa using hx)
   refine ⟨m, stp (fun k => laws_markGateS.l0.eq_2 ..) (ifp (by omega) (ifp (by omega) (bnd0 rfl ?_)))⟩
   rw [up (by omega) (by omega : (i : Int) < (l.length : Int)) (by omega), w64 (x := 1 + 2 * (i : Int) + 1) (by omega) (by omega), w64 (x := 1 + 2 * (i : Int) + 1 + 1) (by omega) (by omega), Int.toNat_natCast]
   rw [show ((i + 1 : Nat) : Int) = (i : Int) + 1 by omega, show 1 + 2 * ((i : Int) + 1) = 1 + 2 * (i : Int) + 1 + 1 by omega] at m3
   exact m3
 obtain ⟨m, m3⟩ := key l.length 0 l (by omega) rfl
 refine ⟨m, evc (fun k => laws_markGateS.f.eq_1 ..) ?_⟩
 simpa using m3
theorem in_is (x lo hi : Int) : spec_l01In.f x lo hi = some (decide (lo ≤ x) && decide (x ≤ hi)) := by
 unfold spec_l01In.f
 by_cases h : x ≥ lo
 ·rw [if_pos h, decide_eq_true h, Bool.true_and]
 ·rw [if_neg h, decide_eq_false h, Bool.false_and]
abbrev RowsOK (l : List (List Int)) : Prop := Reads.WFL 24 (Reads.WFL 8 Reads.WFI) l
theorem rows_len {l : List (List Int)} (h : RowsOK l) : l.length * 24 ≤ 140737488351232 := h.1
theorem row_len {l : List (List Int)} (h : RowsOK l) {i : Nat} {c : List Int} (hc : l[i]? = some c) : c.length * 8 ≤ 140737488351232 := (h.2 c (List.mem_of_getElem? hc)).1
theorem eqI_self (l : List Int) (hl : l.length ≤ 140737488351232) : Ev (fun k => laws_eqIntS.f k l l) true := by
 refine evc (fun k => laws_eqIntS.f.eq_1 ..) (ifp rfl ?_)
 refine same l (fun i k => laws_eqIntS.l0 k l l i) ?_ ?_
 ·exact stp (fun k => laws_eqIntS.l0.eq_2 ..) (ifn (by omega) (sm _))
 ·intro i x hx hk
  have hi : i < l.length := (List.getElem?_eq_some_iff.1 hx).1
  refine stp (fun k => laws_eqIntS.l0.eq_2 ..) (ifp (by omega) (ifp (by omega) (ifp (by omega) (ifp rfl ?_))))
  rw [up (by omega) (by omega : (i : Int) < (l.length : Int)) (by omega)]
  exact hk
theorem eqSS_self (l : List (List Int)) (h : RowsOK l) : Ev (fun k => laws_eqIntSS.f k l l) true := by
 have hl := rows_len h
 refine evc (fun k => laws_eqIntSS.f.eq_1 ..) (ifp rfl ?_)
 refine same l (fun i k => laws_eqIntSS.l0 k l l i) ?_ ?_
 ·exact stp (fun k => laws_eqIntSS.l0.eq_2 ..) (ifn (by omega) (sm _))
 ·intro i x hx hk
  have hi : i < l.length := (List.getElem?_eq_some_iff.1 hx).1
  have hxl := row_len h hx
  refine stp (fun k => laws_eqIntSS.l0.eq_2 ..) (ifp (by omega) (ifp (by omega) (ifp (by omega) ?_)))
  rw [show rd_L3 l (i : Int) = x from getD_some hx, up (by omega) (by omega : (i : Int) < (l.length : Int)) (by omega)]
  exact bnd (eqI_self x (by omega)) (ifp rfl hk)
theorem eqCnf_self (a : Int) (l : List (List Int)) (h : RowsOK l) : Ev (fun k => laws_eqCnf.f k a l a l) true :=
 evc (fun k => laws_eqCnf.f.eq_1 ..) (ifp rfl (bnd (eqSS_self l h) (ifp rfl (sm _))))
theorem specClause_is (c : List Int) (vars : Int) (hc : c.length * 8 ≤ 140737488351232) : Ev (fun k => spec_l01Clause.f k c vars) (clauseB c vars) := by
 unfold clauseB
 rw [not_any_not c (fun x => litB x vars)]
 refine evc (fun k => spec_l01Clause.f.eq_1 ..) ?_
 by_cases h : c.length ≤ 12
 ·rw [decide_eq_true h, Bool.true_and]
  refine ifn (by omega) ?_
  refine allL c (fun x => litB x vars) (fun i k => spec_l01Clause.l0 k c vars i) ?_ ?_
  ·exact stp (fun k => spec_l01Clause.l0.eq_2 ..) (ifn (by omega) (sm _))
  ·intro i x r hx hk
   have hi : i < c.length := (List.getElem?_eq_some_iff.1 hx).1
   refine stp (fun k => spec_l01Clause.l0.eq_2 ..) (ifp (by omega) (ifp (by omega) ?_))
   rw [show rd c (i : Int) = x from getD_some hx, up (by omega) (by omega : (i : Int) < (c.length : Int)) (by omega)]
   unfold litB
   by_cases hz : x = 0
   ·refine ifp hz ?_
    rw [decide_eq_false (by simpa using hz)]
    exact sm _
   ·refine ifn hz (bnd0 (in_is _ _ _) ?_)
    rw [decide_eq_true hz, Bool.true_and]
    cases hb : decide (wrap64 (-vars) ≤ x) && decide (x ≤ vars) with
    | true => exact ifp rfl (by simpa using hk)
    | false => exact ifn (by simp) (sm _)
 ·rw [decide_eq_false h, Bool.false_and]
  exact ifp (by omega) (sm _)
theorem specCnf_is (a : Int) (l : List (List Int)) (h : RowsOK l) : Ev (fun k => spec_CnfOK.f k a l) (cnfB a l) := by
 have hl := rows_len h
 unfold cnfB
 rw [not_any_not l (fun c => clauseB c a), ← Bool.and_assoc]
 refine bnd0 (in_is _ _ _) ?_
 cases h1 : decide (0 ≤ a) && decide (a ≤ 40) with
 | false =>
  rw [Bool.false_and]
  exact ifn (by simp) (stp (fun k => spec_CnfOK.j0.eq_2 ..) (ifp rfl (sm _)))
 | true =>
  rw [Bool.true_and]
  refine ifp rfl (stp (fun k => spec_CnfOK.j0.eq_2 ..) ?_)
  by_cases h2 : l.length ≤ 300
  ·rw [decide_eq_true h2, Bool.true_and]
   refine ifn (by simp; omega) ?_
   refine allL l (fun c => clauseB c a) (fun i k => spec_CnfOK.l0 k i a l) ?_ ?_
   ·exact stp (fun k => spec_CnfOK.l0.eq_2 ..) (ifn (by omega) (sm _))
   ·intro i x r hx hk
    have hi : i < l.length := (List.getElem?_eq_some_iff.1 hx).1
    have hxl := row_len h hx
    refine stp (fun k => spec_CnfOK.l0.eq_2 ..) (ifp (by omega) (ifp (by omega) ?_))
    rw [show rd_L3 l (i : Int) = x from getD_some hx, up (by omega) (by omega : (i : Int) < (l.length : Int)) (by omega)]
    refine bnd (specClause_is x a hxl) ?_
    cases hb : clauseB x a with
    | true => exact ifp rfl (by simpa using hk)
    | false => exact ifn (by simp) (sm _)
  ·rw [decide_eq_false h2, Bool.false_and]
   exact ifp (by simp; omega) (sm _)
theorem markN_is (l : List Int) (k0 : Int) (h0 : 0 ≤ k0) (h1 : k0 + (l.length : Int) ≤ 1000000000000000000) : ∃ m : List Int, m.length = l.length ∧ (∀ j : Nat, j < m.length → rd m (j : Int) = k0 + (j : Int)) ∧ Ev (fun k => laws_markIntS.f k l k0) (k0 + (l.length : Int), m) := by
 have key : ∀ (d i : Nat) (x : List Int), i + d = l.length → x.length = l.length → (∀ j : Nat, j < i → rd x (j : Int) = k0 + (j : Int)) → ∃ m : List Int, m.length = l.length ∧ (∀ j : Nat, j < m.length → rd m (j : Int) = k0 + (j : Int)) ∧ Ev (fun k => laws_markIntS.l0 k x (k0 + (i : Int)) (i : Int)) (k0 + (l.length : Int), m) := by
  intro d
  induction d with
  | zero =>
   intro i x hi hx hj
   obtain rfl : i = l.length := by omega
   exact ⟨x, hx, by rw [hx]; exact hj, stp (fun k => laws_markIntS.l0.eq_2 ..) (ifn (by omega) (sm _))⟩
  | succ d ih =>
   intro i x hi hx hj
   obtain ⟨m, m1, m2, m3⟩ := ih (i + 1) (x.set i (k0 + (i : Int))) (by omega) (by simpa using hx) (by
    intro j hlt
    by_cases e : j = i
    ·subst e
     unfold rd
     simp [List.getD, show j < x.length by omega]
    ·have := hj j (by omega)
     unfold rd at this ⊢
     simp only [Int.toNat_natCast] at this ⊢
     rw [List.getD_eq_getElem?_getD, List.getElem?_set_ne (by omega), ← List.getD_eq_getElem?_getD]
     exact this)
   refine ⟨m, m1, m2, stp (fun k => laws_markIntS.l0.eq_2 ..) (ifp (by omega) (ifp (by omega) ?_))⟩
   rw [up (by omega) (by omega : (i : Int) < (l.length : Int)) (by omega), w64 (by omega) (by omega), Int.toNat_natCast]
   rw [show ((i + 1 : Nat) : Int) = (i : Int) + 1 by omega, ← Int.add_assoc] at m3
   exact m3
 obtain ⟨m, m1, m2, m3⟩ := key l.length 0 l (by omega) rfl (fun j hj => absurd hj (Nat.not_lt_zero _))
 refine ⟨m, m1, m2, evc (fun k => laws_markIntS.f.eq_1 ..) ?_⟩
 simpa using m3
theorem heldN_is (m : List Int) (k0 : Int) (h0 : 0 ≤ k0) (h1 : k0 + (m.length : Int) ≤ 1000000000000000000) (hm : ∀ j : Nat, j < m.length → rd m (j : Int) = k0 + (j : Int)) : Ev (fun k => laws_heldIntS.f k m k0) (k0 + (m.length : Int)) := by
 have key : ∀ (d i : Nat), i + d = m.length → Ev (fun k => laws_heldIntS.l0 k m (k0 + (i : Int)) (i : Int)) (k0 + (m.length : Int)) := by
  intro d
  induction d with
  | zero =>
   intro i hi
   obtain rfl : i = m.length := by omega
   exact stp (fun k => laws_heldIntS.l0.eq_2 ..) (ifn (by omega) (sm _))
  | succ d ih =>
   intro i hi
   have := ih (i + 1) (by omega)
   rw [show ((i + 1 : Nat) : Int) = (i : Int) + 1 by omega, ← Int.add_assoc] at this
   refine stp (fun k => laws_heldIntS.l0.eq_2 ..) (ifp (by omega) (ifp (by omega) (ifp (hm i (by omega)) ?_)))
   rw [up (by omega) (by omega : (i : Int) < (m.length : Int)) (by omega), w64 (x := k0 + (i : Int) + 1) (by omega) (by omega)]
   exact this
 have := key m.length 0 (by omega)
 refine evc (fun k => laws_heldIntS.f.eq_1 ..) ?_
 simpa using this
def nl (x : Int) : Int := if Int.tmod x 2 = 1 then wrap64 (-(wrap64 (Int.tdiv x 2))) else wrap64 (Int.tdiv x 2)
theorem nl_spec (x : Int) : spec_l04Lit.f x = some (nl x) := by
 unfold spec_l04Lit.f nl
 split <;> rfl
theorem nl_impl (x : Int) : impl_nodeLiteral.f x = some (nl x) := by
 unfold impl_nodeLiteral.f nl
 split <;> rfl
theorem wr_wf (x : Int) : Reads.WFI (wrap64 x) := by
 unfold Reads.WFI wrap64
 omega
theorem nl_wf (x : Int) : Reads.WFI (nl x) := by
 unfold nl
 split <;> exact wr_wf _
def tsG (a i : Int) (g : S114) : List (List Int) := [[wrap64 (-(wrap64 (wrap64 (a + 1) + i))), nl g.f0], [wrap64 (-(wrap64 (wrap64 (a + 1) + i))), nl g.f1], [wrap64 (wrap64 (a + 1) + i), wrap64 (-(nl g.f0)), wrap64 (-(nl g.f1))]]
def tsR (a : Int) : List S114 → Nat → List (List Int)
 | [], _ => []
 | g :: r, i => tsG a (i : Int) g ++ tsR a r (i + 1)
def tsE (x : Int) : List (List Int) := if x = 0 then [[]] else if x = 1 then [] else [[nl x]]
theorem tsR_len (a : Int) : ∀ (l : List S114) (i : Nat), (tsR a l i).length = 3 * l.length
 | [], _ => rfl
 | g :: r, i => by
  rw [tsR, List.length_append, tsR_len a r (i + 1), List.length_cons]
  show 3 + _ = _
  omega
def Row3 (c : List Int) : Prop := c.length ≤ 3 ∧ ∀ x ∈ c, Reads.WFI x
theorem tsG_row (a i : Int) (g : S114) : ∀ c ∈ tsG a i g, Row3 c := by
 intro c hc
 unfold tsG at hc
 simp only [List.mem_cons, List.not_mem_nil, or_false] at hc
 rcases hc with rfl | rfl | rfl
 ·exact ⟨by simp, by simp only [List.mem_cons, List.not_mem_nil, or_false]; rintro x (rfl | rfl) <;> first | exact wr_wf _ | exact nl_wf _⟩
 ·exact ⟨by simp, by simp only [List.mem_cons, List.not_mem_nil, or_false]; rintro x (rfl | rfl) <;> first | exact wr_wf _ | exact nl_wf _⟩
 ·exact ⟨by simp, by simp only [List.mem_cons, List.not_mem_nil, or_false]; rintro x (rfl | rfl | rfl) <;> exact wr_wf _⟩
theorem tsR_row (a : Int) : ∀ (l : List S114) (i : Nat), ∀ c ∈ tsR a l i, Row3 c
 | [], _ => fun c hc => absurd hc (List.not_mem_nil)
 | g :: r, i => fun c hc => by
  rw [tsR] at hc
  rcases List.mem_append.1 hc with h | h
  ·exact tsG_row _ _ _ c h
  ·exact tsR_row a r (i + 1) c h
theorem tsE_row (x : Int) : ∀ c ∈ tsE x, Row3 c := by
 intro c hc
 unfold tsE at hc
 split at hc
 ·obtain rfl := List.mem_singleton.1 hc
  exact ⟨by simp, fun x hx => absurd hx (List.not_mem_nil)⟩
 ·split at hc
  ·exact absurd hc (List.not_mem_nil)
  ·obtain rfl := List.mem_singleton.1 hc
   exact ⟨by simp, fun y hy => by rw [List.mem_singleton.1 hy]; exact nl_wf _⟩
theorem tsE_len (x : Int) : (tsE x).length ≤ 1 := by
 unfold tsE
 split
 ·simp
 ·split <;> simp
theorem rows3 {l : List (List Int)} (hl : l.length ≤ 2000) (h : ∀ c ∈ l, Row3 c) : RowsOK l := ⟨by omega, fun c hc => ⟨by have := (h c hc).1; omega, (h c hc).2⟩⟩
theorem sum3 : ∀ (l : List (List Int)), (∀ c ∈ l, Row3 c) → sumL l ≤ 3 * l.length
 | [], _ => by simp [sumL]
 | c :: r, h => by
  have h1 := sum3 r (fun d hd => h d (List.mem_cons_of_mem _ hd))
  have h2 := (h c (List.mem_cons_self)).1
  unfold sumL at h1 ⊢
  rw [List.map_cons, List.sum_cons, List.length_cons]
  omega
def tsA (V : Int) (F : List (List Int)) : Int × List (List Int) × Int := if cnfB V F = true then (V, F, 0) else (0, [], 11)
theorem tsA_p {V : Int} {F : List (List Int)} (h : cnfB V F = true) : tsA V F = (V, F, 0) := if_pos h
theorem tsA_n {V : Int} {F : List (List Int)} (h : ¬ cnfB V F = true) : tsA V F = (0, [], 11) := if_neg h
theorem tsE_0 {x : Int} (h : x = 0) : tsE x = [[]] := if_pos h
theorem tsE_1 {x : Int} (h0 : ¬ x = 0) (h : x = 1) : tsE x = [] := (if_neg h0).trans (if_pos h)
theorem tsE_2 {x : Int} (h0 : ¬ x = 0) (h : ¬ x = 1) : tsE x = [[nl x]] := (if_neg h0).trans (if_neg h)
theorem spec_end (V : Int) (F : List (List Int)) (h : RowsOK F) : Ev (fun k => (spec_CnfOK.f k V F).bind fun t => if t = true then some (V, F, (0 : Int)) else some ((0 : Int), ([] : List (List Int)), (11 : Int))) (tsA V F) := by
 refine bnd (specCnf_is V F h) ?_
 by_cases hb : cnfB V F = true
 ·rw [tsA_p hb]; exact ifp hb (sm _)
 ·rw [tsA_n hb]; exact ifn hb (sm _)
theorem spec_run (a x V : Int) (gs : List S114) (hl : gs.length ≤ 400) : ∀ (d i : Nat) (acc : List (List Int)), i + d = gs.length → acc.length ≤ 3 * i → (∀ c ∈ acc, Row3 c) → Ev (fun k => spec_Tseitin.l0 k x (i : Int) a gs V acc) (tsA V (acc ++ tsR a (gs.drop i) i ++ tsE x)) := by
 intro d
 induction d with
 | zero =>
  intro i acc hi hac hrow
  have hd : gs.drop i = [] := List.drop_of_length_le (by omega)
  rw [hd, tsR, List.append_nil]
  have hok : RowsOK (acc ++ tsE x) := rows3 (by have := tsE_len x; rw [List.length_append]; omega) (fun c hc => (List.mem_append.1 hc).elim (hrow c) (tsE_row x c))
  refine stp (fun k => spec_Tseitin.l0.eq_2 ..) (ifn (by omega) ?_)
  by_cases h0 : x = 0
  ·rw [tsE_0 h0] at hok ⊢
   exact ifp h0 (ifp (by omega) (bnd0 rfl (spec_end V _ hok)))
  ·refine ifn h0 ?_
   by_cases h1 : x = 1
   ·rw [tsE_1 h0 h1, List.append_nil] at hok ⊢
    exact ifp h1 (spec_end V _ hok)
   ·rw [tsE_2 h0 h1] at hok ⊢
    exact ifn h1 (bnd0 (nl_spec x) (ifp (by omega) (bnd0 rfl (spec_end V _ hok))))
 | succ d ih =>
  intro i acc hi hac hrow
  have hil : i < gs.length := by omega
  have hx : gs[i]? = some gs[i] := List.getElem?_eq_getElem hil
  have hrd : rd_T114 gs (i : Int) = gs[i] := getD_some hx
  refine stp (fun k => spec_Tseitin.l0.eq_2 ..) (ifp (by omega) (ifp (by omega) ?_))
  rw [hrd, up (by omega) (by omega : (i : Int) < (gs.length : Int)) (by omega)]
  refine bnd0 (nl_spec _) (bnd0 (nl_spec _) (bnd0 rfl (ifp (by simp; omega) ?_)))
  have := ih (i + 1) (acc ++ tsG a (i : Int) gs[i]) (by omega) (by rw [List.length_append]; show _ + 3 ≤ _; omega) (fun c hc => (List.mem_append.1 hc).elim (hrow c) (tsG_row _ _ _ c))
  rw [List.drop_eq_getElem_cons hil, tsR, ← List.append_assoc]
  rw [show ((i + 1 : Nat) : Int) = (i : Int) + 1 by omega] at this
  exact this
theorem impl_run (a x V : Int) (gs : List S114) (hl : gs.length ≤ 400) : ∀ (d i : Nat) (acc : List (List Int)), i + d = gs.length → acc.length ≤ 3 * i → Ev (fun k => impl_tseitin.l0 k x gs (gs.length : Int) (i : Int) a gs V acc) (V, acc ++ tsR a (gs.drop i) i ++ tsE x) := by
 intro d
 induction d with
 | zero =>
  intro i acc hi hac
  have hd : gs.drop i = [] := List.drop_of_length_le (by omega)
  rw [hd, tsR, List.append_nil]
  refine stp (fun k => impl_tseitin.l0.eq_2 ..) (ifn (by omega) ?_)
  by_cases h0 : x = 0
  ·rw [tsE_0 h0]
   exact ifp h0 (ifp (by omega) (sm _))
  ·refine ifn h0 ?_
   by_cases h1 : x = 1
   ·rw [tsE_1 h0 h1, List.append_nil]
    exact ifp h1 (sm _)
   ·rw [tsE_2 h0 h1]
    exact ifn h1 (bnd0 (nl_impl x) (ifp (by omega) (sm _)))
 | succ d ih =>
  intro i acc hi hac
  have hil : i < gs.length := by omega
  have hx : gs[i]? = some gs[i] := List.getElem?_eq_getElem hil
  have hrd : rd_T114 gs (i : Int) = gs[i] := getD_some hx
  refine stp (fun k => impl_tseitin.l0.eq_2 ..) (ifp (by omega) (ifp (by omega) (ifp (by omega) ?_)))
  rw [hrd, up (by omega) (by omega : (i : Int) < (gs.length : Int)) (by omega), Int.add_comm 1 a]
  refine bnd0 (nl_impl _) (bnd0 (nl_impl _) (bnd0 rfl (ifp (by simp; omega) ?_)))
  have := ih (i + 1) (acc ++ tsG a (i : Int) gs[i]) (by omega) (by rw [List.length_append]; show _ + 3 ≤ _; omega)
  rw [List.drop_eq_getElem_cons hil, tsR, ← List.append_assoc]
  rw [show ((i + 1 : Nat) : Int) = (i : Int) + 1 by omega] at this
  exact this
def okLit (a : Int) (gs : List S114) (x : Int) : Bool := decide (0 ≤ x) && decide (x ≤ 2 * (a + (gs.length : Int)) + 1)
theorem in1 (a : Int) (gs : List S114) (x : Int) (h0 : 0 ≤ a) (h1 : a ≤ 12) (hl : gs.length ≤ 400) : Ev (fun k => spec_l04In.f k a gs [x]) (okLit a gs x) := by
 refine evc (fun k => spec_l04In.f.eq_1 ..) (stp (fun k => spec_l04In.l0.eq_2 ..) (ifp (by simp) (ifp (by decide) ?_)))
 refine bnd0 (in_is _ _ _) ?_
 rw [w64 (x := a + (gs.length : Int)) (by omega) (by omega), w64 (x := 2 * (a + (gs.length : Int))) (by omega) (by omega), w64 (x := 2 * (a + (gs.length : Int)) + 1) (by omega) (by omega)]
 show Ev (fun n => if okLit a gs x = true then _ else _) _
 by_cases h : okLit a gs x = true
 ·rw [h]
  exact ifp rfl (stp (fun k => spec_l04In.l0.eq_2 ..) (ifn (by rw [show wrap64 (0 + 1) = 1 from w64 (by omega) (by omega)]; simp) (sm _)))
 ·rw [Bool.not_eq_true] at h
  rw [h]
  exact ifn (by simp) (sm _)
theorem lit1 (a : Int) (gs : List S114) (x : Int) (h0 : 0 ≤ a) (h1 : a ≤ 12) (hl : gs.length ≤ 400) : impl_isAigLiteral.f a gs x = some (okLit a gs x) := by
 unfold impl_isAigLiteral.f impl_nodesOf.f okLit
 rw [Option.bind_some, w64 (x := 1 + a) (by omega) (by omega), w64 (x := 1 + a + (gs.length : Int)) (by omega) (by omega), w64 (x := 2 * (1 + a + (gs.length : Int))) (by omega) (by omega), w64 (x := 2 * (1 + a + (gs.length : Int)) - 1) (by omega) (by omega), show 2 * (1 + a + (gs.length : Int)) - 1 = 2 * (a + (gs.length : Int)) + 1 by omega]
 unfold impl_within.f
 by_cases h : x ≥ 0
 ·rw [if_pos h, decide_eq_true h, Bool.true_and]; rfl
 ·rw [if_neg h, decide_eq_false h, Bool.false_and]; rfl
theorem both (a : Int) (gs : List S114) (x : Int) : ∃ s1 s2 s3, Ev (fun k => spec_Tseitin.f k a gs x) (s1, s2, s3) ∧ Ev (fun k => impl_Tseitin.f k a gs x) (s1, s2, s3) ∧ s2.length ≤ 2000 ∧ ∀ c ∈ s2, Row3 c := by
 have hsp := spec_is a gs
 have him := isAig_is a gs
 cases hans : ans a gs with
 | false =>
  rw [hans] at hsp him
  exact ⟨0, [], 1, evc (fun k => spec_Tseitin.f.eq_1 ..) (bnd hsp (ifn (by simp) (sm _))), evc (fun k => impl_Tseitin.f.eq_1 ..) (bnd him (ifn (by simp) (sm _))), by simp, fun c hc => absurd hc (List.not_mem_nil)⟩
 | true =>
  rw [hans] at hsp him
  unfold ans at hans
  simp only [Bool.and_eq_true, decide_eq_true_eq] at hans
  obtain ⟨h0, h1, hl, _⟩ := hans
  have hi1 := in1 a gs x h0 h1 hl
  have hl1 := lit1 a gs x h0 h1 hl
  cases hok : okLit a gs x with
  | false =>
   rw [hok] at hi1 hl1
   exact ⟨0, [], 5, evc (fun k => spec_Tseitin.f.eq_1 ..) (bnd hsp (ifp rfl (bnd hi1 (ifn (by simp) (sm _))))), evc (fun k => impl_Tseitin.f.eq_1 ..) (bnd him (ifp rfl (bnd0 hl1 (ifn (by simp) (sm _))))), by simp, fun c hc => absurd hc (List.not_mem_nil)⟩
  | true =>
   rw [hok] at hi1 hl1
   have q1 := spec_run a x (a + (gs.length : Int)) gs hl gs.length 0 [] (by omega) (by simp) (fun c hc => absurd hc (List.not_mem_nil))
   have q2 := impl_run a x (a + (gs.length : Int)) gs hl gs.length 0 [] (by omega) (by simp)
   rw [List.drop_zero, List.nil_append] at q1 q2
   have hlen : (tsR a gs 0 ++ tsE x).length ≤ 2000 := by
    have := tsE_len x
    rw [List.length_append, tsR_len]
    omega
   have hrow : ∀ c ∈ tsR a gs 0 ++ tsE x, Row3 c := fun c hc => (List.mem_append.1 hc).elim (tsR_row a gs 0 c) (tsE_row x c)
   generalize tsR a gs 0 ++ tsE x = F at q1 q2 hlen hrow
   have hsp2 : Ev (fun k => spec_Tseitin.f k a gs x) (tsA (a + (gs.length : Int)) F) := evc (fun k => spec_Tseitin.f.eq_1 ..) (bnd hsp (ifp rfl (bnd hi1 (ifp rfl (by rw [w64 (x := a + (gs.length : Int)) (by omega) (by omega)]; exact q1)))))
   have hno : impl_nodesOf.f a gs = some (1 + a + (gs.length : Int)) := by
    unfold impl_nodesOf.f
    rw [w64 (x := 1 + a) (by omega) (by omega), w64 (x := 1 + a + (gs.length : Int)) (by omega) (by omega)]
   have hts : Ev (fun k => impl_tseitin.f k a gs x) (a + (gs.length : Int), F) := evc (fun k => impl_tseitin.f.eq_1 ..) (bnd0 hno (by
    rw [w64 (x := 1 + a + (gs.length : Int) - 1) (by omega) (by omega), show 1 + a + (gs.length : Int) - 1 = a + (gs.length : Int) by omega]
    exact q2))
   have him2 : Ev (fun k => impl_Tseitin.f k a gs x) (tsA (a + (gs.length : Int)) F) := by
    refine evc (fun k => impl_Tseitin.f.eq_1 ..) (bnd him (ifp rfl (bnd0 hl1 (ifp rfl (bnd hts (bnd0 (a := cnfB (a + (gs.length : Int)) F) rfl ?_))))))
    by_cases hb : cnfB (a + (gs.length : Int)) F = true
    ·rw [tsA_p hb]; exact ifp hb (sm _)
    ·rw [tsA_n hb]; exact ifn hb (sm _)
   by_cases hb : cnfB (a + (gs.length : Int)) F = true
   ·rw [tsA_p hb] at hsp2 him2
    exact ⟨_, _, _, hsp2, him2, hlen, hrow⟩
   ·rw [tsA_n hb] at hsp2 him2
    exact ⟨_, _, _, hsp2, him2, by simp, fun c hc => absurd hc (List.not_mem_nil)⟩
theorem markI_ex (l : List Int) (b : Int) (h0 : 0 ≤ b) (h1 : b + (l.length : Int) ≤ 1000000000000000000) : ∃ m : List Int, laws_markIntS.f (l.length + 1) l b = some (b + (l.length : Int), m) ∧ m.length = l.length ∧ ∀ j : Nat, j < m.length → rd m (j : Int) = b + (j : Int) := by
 obtain ⟨r, hr, hrl⟩ := markI_run l.length 0 l b (by omega) h0 (by omega) (by omega)
 obtain ⟨m, m1, m2, m3⟩ := markN_is l b h0 h1
 have hr2 : laws_markIntS.f (l.length + 1) l b = some (b + (l.length : Int), r) := hr
 have key : ∀ e : Nat, laws_markIntS.f (l.length + 1 + e) l b = some (b + (l.length : Int), r) := by
  intro e
  induction e with
  | zero => exact hr2
  | succ e ih => exact laws_markIntS.mono l b (l.length + 1 + e) _ ih
 have hE : Ev (fun k => laws_markIntS.f k l b) (b + (l.length : Int), r) := ⟨l.length + 1, fun k hk => by
  obtain ⟨e, rfl⟩ := Nat.exists_eq_add_of_le hk
  exact key e⟩
 have := uniq hE m3
 obtain rfl : r = m := (Prod.mk.inj this).2
 exact ⟨r, hr2, m1, m2⟩
theorem rowsHeld : ∀ (d kk : Nat) (ys : List (List Int)) (b : Int), kk + d = ys.length → ys.length ≤ 1000000000 → 0 ≤ b → b + (sumL (ys.drop kk) : Int) ≤ 100000000000000000 → ∃ M : List (List Int), markSSv (d + 1) ys b kk = some (b + (sumL (ys.drop kk) : Int), M) ∧ M.length = ys.length ∧ (∀ j : Nat, j < kk → M[j]? = ys[j]?) ∧ Ev (fun k => laws_heldIntSS.l0 k M b (kk : Int)) (b + (sumL (ys.drop kk) : Int)) := by
 intro d
 induction d with
 | zero =>
  intro kk ys b hk hm h0 h1
  obtain rfl : kk = ys.length := by omega
  rw [List.drop_length, show sumL [] = 0 from rfl, Int.natCast_zero, Int.add_zero]
  exact ⟨ys, by rw [markSSv, if_neg (by omega)], rfl, fun _ _ => rfl, stp (fun k => laws_heldIntSS.l0.eq_2 ..) (ifn (by omega) (sm _))⟩
 | succ d ih =>
  intro kk ys b hk hm h0 h1
  have hlt : kk < ys.length := by omega
  have hsum := sumL_drop ys kk hlt
  rw [hsum, Int.natCast_add] at h1
  obtain ⟨m, e1, e2, e3⟩ := markI_ex (ys.getD kk []) b h0 (by omega)
  have hdr : (ys.set kk m).drop (kk + 1) = ys.drop (kk + 1) := by rw [List.drop_set_of_lt (by omega)]
  obtain ⟨M, f1, f2, f3, f4⟩ := ih (kk + 1) (ys.set kk m) (b + ((ys.getD kk []).length : Int)) (by rw [List.length_set]; omega) (by rw [List.length_set]; exact hm) (by omega) (by rw [hdr]; omega)
  rw [hdr] at f1 f4
  rw [List.length_set] at f2
  have hMk : M[kk]? = some m := by rw [f3 kk (by omega), List.getElem?_set_self hlt]
  have hs : b + ((sumL (ys.drop kk) : Nat) : Int) = b + ((ys.getD kk []).length : Int) + (sumL (ys.drop (kk + 1)) : Int) := by rw [hsum]; omega
  rw [hs]
  refine ⟨M, ?_, f2, fun j hj => by rw [f3 j (by omega), List.getElem?_set_ne (by omega)], ?_⟩
  ·rw [markSSv, if_pos hlt, e1, Option.bind_some]
   simp only
   rw [if_pos e2]
   exact f1
  ·refine stp (fun k => laws_heldIntSS.l0.eq_2 ..) (ifp (by omega) (ifp (by omega) ?_))
   rw [show rd_L3 M (kk : Int) = m from getD_some hMk, up (by omega) (by omega : (kk : Int) < (M.length : Int)) (by omega)]
   refine bnd (heldN_is m b h0 (by omega) e3) (ifn (by omega) ?_)
   rw [e2]
   rw [show ((kk + 1 : Nat) : Int) = (kk : Int) + 1 by omega] at f4
   exact f4
theorem FnExactTseitin : laws_FnExactTseitin.Pure := by
 intro a l x ha hl hx
 refine Ev.rounds ?_
 have h0 := hl.1
 have hsz : laws_szAig.f a l 1048576 = some (if 1048576 - (l.length : Int) < 0 then -1 else 1048576 - (l.length : Int)) := by
  unfold laws_szAig.f laws_szGateS.f
  rw [w64 (by omega) (by omega)]
  by_cases h : 1048576 - (l.length : Int) < 0
  ·simp [h]
  ·simp only [if_neg h, Option.bind_some]
 refine bnd0 hsz ?_
 by_cases h : 1048576 - (l.length : Int) < 0
 ·rw [if_pos h]; exact ifp (by decide) (sm _)
 rw [if_neg h]
 have hto := to_is a l (by omega)
 obtain ⟨s1, s2, s3, hsp, him, hlen, hrow⟩ := both a (l.map conv) x
 have hok := rows3 hlen hrow
 have hs3 := sum3 s2 hrow
 obtain ⟨mg, hmg⟩ := markG_is (l.map conv) (by simp; omega)
 obtain ⟨M, f1, f2, _, f4⟩ := rowsHeld s2.length 0 s2 1 (by omega) (by omega) (by decide) (by rw [List.drop_zero]; omega)
 rw [List.drop_zero] at f1 f4
 have hheld : Ev (fun k => laws_heldCnf.f k s1 M 1) (1 + (sumL s2 : Int)) := evc (fun k => laws_heldCnf.f.eq_1 ..) (bnd (evc (fun k => laws_heldIntSS.f.eq_1 ..) f4) (ifn (by omega) (sm _)))
 have hma : Ev (fun k => laws_markAig.f k a (l.map conv) 1) (1 + 2 * ((l.map conv).length : Int), mg) := evc (fun k => laws_markAig.f.eq_1 ..) (bnd hmg (sm _))
 refine ifn h (bnd hto (bnd hsp (bnd him (bnd (eqCnf_self s1 s2 hok) (bnd (eq_self a (l.map conv) (by simp; omega)) (bnd hma (bnd0 f1 (bnd hheld ?_))))))))
 exact ifp ⟨rfl, rfl, rfl, rfl, rfl, by omega, by omega⟩ (sm _)
end Go.Proofs.Ytcmkkoggdcjceaa.Pure
end
section
set_option linter.unusedVariables false
set_option linter.unusedSimpArgs false
namespace Go.Proofs.Ytcmkkoggdcjceaa.fnExactTseitin
open Go.ChangeShapes Go.WideShapes Go.ChangeAt Go.RowKit Go.Proofs.Ytcmkkoggdcjceaa.PFnExactTseitin Go.Proofs.YtcmkkoggdcjceaaW.PrintWords
open Go.ChangeMaps (open_string shut_string)
theorem own : ownKnob Try.prog.godebug = none := by kernel_rfl
theorem laidOut : laidOutB Try.prog = true := by kernel_rfl
set_option maxRecDepth 100000 in
theorem lifted (os : Os) (started : os.Started) (H : Type) (enc : TypeId × Value → H) :
  ReturnsInHanded {} Try.checked os 8 .any (Rows.fnExactTseitinSpec.pre6 enc Try.prog Try.f8 Rows.fnExactTseitinRow.domain false) (Rows.fnExactTseitinSpec.post enc Try.prog Try.f8 false true false false) := by
 refine returnsInHanded_of_change_sized (C := Try.checked) own started (by kernel_rfl) Try.func8
  (ChangeSpec.witness6 (enc := enc) (C := Try.checked) false ⟨#[], #[.agg #[.int .i64 0, .slice none 0 0], .int .i64 0], []⟩ 8 (by kernel_rfl) (by kernel_rfl) (by kernel_rfl) (by kernel_rfl)) ?_
 intro W base args ds gs before hval0 hW hcnd hsz0 _
 have hsz : (DataW.weightsEach Try.prog (Try.f8.params.toList ++ Rows.fnExactTseitinSpec.plain.varTypes Try.prog) (ds ++ gs)).all (· ≤ reachBytes) = true := hsz0
 have hval : ∀ (j : Nat) t v, Try.f8.params[j]? = some t → args[j]? = some v → Value.okWide Try.prog W .any base t v := hval0
 have hW' := hW
 obtain ⟨p, q, hA0, hV, rfl, hfz, hnd⟩ := hW
 have hA : DataW.TrodAll enc Try.prog W 0 (fun _ => true) true Try.f8.params.toList args.toList ds p := hA0
 rw [Try.params8] at hA hval hsz
 obtain ⟨v0, vs0, d0, ds0, p0, q0, hargs, rfl, rfl, h0, r0⟩ := trodAll_cons hA
 obtain ⟨v1, vs1, d1, ds1, p1, q1, rfl, rfl, rfl, h1, r1⟩ := trodAll_cons r0
 obtain ⟨rfl, rfl, rfl⟩ := trodAll_nil r1
 obtain rfl : args = #[v0, v1] := by cases args; simp_all
 obtain ⟨rfl, rfl⟩ := trodVars_none hV
 obtain ⟨cs0, rfl, z0⟩ := okWide_struct Try.underlying39 (hval 0 39 v0 rfl rfl)
 have k0 := h0
 have lt0 : ∀ x ∈ p0, x.block < W.heap.size := by obtain ⟨m, hm⟩ := k0; exact DataW.trod_lt m _ _ _ hm
 obtain ⟨x0, K0, w0⟩ := Reads.arg (j := 0) (t := 39) (k := Kd.iso (Kd.pair (Kd.int .i64) (Kd.slice 133 k133)) (fun x : (Int) × (List (S133)) => x)) (wf := fun p : (Int) × (List (S133)) => Reads.WFI p.1 ∧ ((Reads.WFL 16 wf133) p.2)) (fun _ => Reads.struct (wf := fun p : (Int) × (List (S133)) => Reads.WFI p.1 ∧ ((Reads.WFL 16 wf133) p.2)) (fun x : (Int) × (List (S133)) => x) (fun p => p) (fun _ => rfl) Try.underlying39 (by kernel_rfl) (fun m _ => (Reads.more rfl (by kernel_rfl) ((Reads.intR Try.underlying3) m) (Reads.last rfl (by kernel_rfl) ((Reads.sliceR (t := 37) (e := 133) Try.underlying37 (by kernel_rfl) (by kernel_rfl) rk133) m))))) hsz rfl rfl h0
 obtain ⟨_, _, e0, rfl, ⟨A0_1, c0_1, rfl, hc0_1, hr0_1⟩⟩ := K0
 obtain rfl : cs0 = #[.int .i64 x0.1, .slice A0_1 x0.2.length c0_1] := by
  apply Array.toList_inj.1
  exact e0
 obtain ⟨a1, rfl, rfl, rfl, y1⟩ := open_int Try.underlying3 (hval 1 3 v1 rfl rfl) h1
 have w1 : Reads.WFI a1 := Reads.wf_i64 y1
 clear hA0 hval0 hsz0 hsz
 obtain ⟨k, h⟩ := Pure.FnExactTseitin x0.1 x0.2 a1 (w0.1) (w0.2) w1
 refine (laws_FnExactTseitin.calls k x0.1 _ _ x0.2 a1 true W hr0_1 hc0_1 h).mono ?_
 rintro e W' ⟨rfl, bel⟩
 exact ⟨_, rfl, _, _, _, [], _, [], hW', trodAll_mk1 (shut_bool Try.underlying4 _), (trodAll_cons_mk (Below.trod laidOut (by kernel_rfl) (of_decide_eq_true (by kernel_rfl)) k0 bel lt0) (trodAll_cons_mk (shut_int Try.underlying3 y1) trodAll_mk0)), rfl, bel.frame _, fun h => by cases h⟩
theorem over : Rows.fnExactTseitinRow.holds Try.pinned (OpenSpec.ofChange Rows.fnExactTseitinSpec) :=
 OpenClaim.holds_of_wide 8 Try.f8 rfl rfl rfl rfl rfl rfl rfl ⟨rfl, rfl, rfl, rfl, rfl⟩ rfl rfl rfl rfl rfl (by kernel_rfl) Try.func8 (by kernel_rfl)
  (of_decide_eq_true (by kernel_rfl)) (by unfold Func.isWrapper; first | (rw [if_pos (by decide +kernel)]; kernel_rfl) | (rw [if_neg (by decide +kernel)]; exact ⟨rfl, rfl⟩))
  (fun os started H enc _ => lifted os started H enc)
theorem proved : Rows.FnExactTseitinSaid := over
end Go.Proofs.Ytcmkkoggdcjceaa.fnExactTseitin
namespace Go.Proofs.Ytcmkkoggdcjceaa
theorem fnExactTseitin_holds : Rows.FnExactTseitinSaid := fnExactTseitin.proved
end Go.Proofs.Ytcmkkoggdcjceaa
end
#print axioms Go.Proofs.Ytcmkkoggdcjceaa.fnExactTseitin_holds
