/- FnExactNeighbours: for every input the law returns true. The texts that this program's session printed and proved for it, those that the proof uses, laid together. Conditions: the form's own reach alone. -/
import Derived.Test.YtgibacfgjmdjdaaQFnExactNeighbours5
import Derived.Deep.Slices
import Derived.ChangeArms
import Derived.SizedLaws
section
namespace Go.Proofs.Ytgibacfgjmdjdaa.PFnExactNeighbours
open Go.RowKit Go.Proofs.YtgibacfgjmdjdaaW.PrintWords Go.Proofs.YtgibacfgjmdjdaaW.PrintLast Go.Proofs.YtgibacfgjmdjdaaW.PrintMore
attribute [local go_sem] max2_int min2_int max_two min_two max_three min_three max_four min_four   -- for this text's walks alone
set_option linter.unusedVariables false
set_option linter.unusedSimpArgs false
def spec_l06Neighbours.l0 : Nat → Int → List Bool → List Int → Int → List ByteArray → List (S92) → List Int → List Int → List (S95) → List (S97) → Option (List Int)
 | 0, _, _, _, _, _, _, _, _, _, _ => none
 | k + 1, x1, x2, x7, x8, x262000, x262001, x262002, x262003, x262004, x262005 => if x8 < (x262000.length : Int) then ((spec_l06Link.f k x262001 x1 x8).bind fun t265 => (if t265 ≥ 0 then (if 0 ≤ t265 then (if t265 < (x2.length : Int) then (if rdOf false x2 t265 = true then (spec_l06Neighbours.l0 k x1 x2 x7 (wrap64 (x8 + 1)) x262000 x262001 x262002 x262003 x262004 x262005) else (if x7.length < 17592186044416 then (spec_l06Neighbours.l0 k x1 x2 (x7 ++ [x8]) (wrap64 (x8 + 1)) x262000 x262001 x262002 x262003 x262004 x262005) else (none))) else (none)) else (none)) else (spec_l06Neighbours.l0 k x1 x2 x7 (wrap64 (x8 + 1)) x262000 x262001 x262002 x262003 x262004 x262005))) else (some x7)
def spec_l06Neighbours.f (k : Nat) (l0_0 : List ByteArray) (l0_1 : List (S92)) (l0_2 : List Int) (l0_3 : List Int) (l0_4 : List (S95)) (l0_5 : List (S97)) (a1 : Int) (l2 : List Bool) : Option (List Int) := spec_l06Neighbours.l0 k a1 l2 (([] : List Int)) 0 l0_0 l0_1 l0_2 l0_3 l0_4 l0_5
set_option maxHeartbeats 8000000 in
set_option maxRecDepth 100000 in
theorem spec_l06Neighbours.calls (k : Nat) (A0_0 : Option Addr) (c0_0 : Nat) (l0_0 : List ByteArray) (A0_1 : Option Addr) (c0_1 : Nat) (l0_1 : List (S92)) (A0_2 : Option Addr) (c0_2 : Nat) (l0_2 : List Int) (A0_3 : Option Addr) (c0_3 : Nat) (l0_3 : List Int) (A0_4 : Option Addr) (c0_4 : Nat) (l0_4 : List (S95)) (A0_5 : Option Addr) (c0_5 : Nat) (l0_5 : List (S97)) (a1 : Int) (A2 : Option Addr) (c2 : Nat) (l2 : List Bool) (r : List Int) (w : World) (hr0_0 : Kd.C Kd.string w A0_0 l0_0.length l0_0) (hc0_0 : l0_0.length ≤ c0_0) (hr0_1 : Kd.C k92 w A0_1 l0_1.length l0_1) (hc0_1 : l0_1.length ≤ c0_1) (hr0_2 : Kd.C (Kd.int .i64) w A0_2 l0_2.length l0_2) (hc0_2 : l0_2.length ≤ c0_2) (hr0_3 : Kd.C (Kd.int .i64) w A0_3 l0_3.length l0_3) (hc0_3 : l0_3.length ≤ c0_3) (hr0_4 : Kd.C k95 w A0_4 l0_4.length l0_4) (hc0_4 : l0_4.length ≤ c0_4) (hr0_5 : Kd.C k97 w A0_5 l0_5.length l0_5) (hc0_5 : l0_5.length ≤ c0_5) (hr2 : Kd.C Kd.bool w A2 l2.length l2) (hc2 : l2.length ≤ c2) (h : spec_l06Neighbours.f k l0_0 l0_1 l0_2 l0_3 l0_4 l0_5 a1 l2 = some r) :
  Calls Try.prog 63 #[.agg #[.slice A0_0 l0_0.length c0_0, .slice A0_1 l0_1.length c0_1, .slice A0_2 l0_2.length c0_2, .slice A0_3 l0_3.length c0_3, .slice A0_4 l0_4.length c0_4, .slice A0_5 l0_5.length c0_5], .int .i64 a1, .slice A2 l2.length c2] w fun e w' => ∃ v0_ : Value, e = .returned (v0_) ∧ Kd.R (Kd.int .i64) 3 w' w.heap.size (fun _ => True) v0_ r ∧ Below w.heap.size w w' := by
 have hu38 := Try.underlying38
 have HR0_0 := Aside0.mk hr0_0
 have HC0_0 := Aside0.mk hc0_0
 clear hr0_0 hc0_0
 have HR0_1 := Aside0.mk hr0_1
 have HC0_1 := Aside0.mk hc0_1
 clear hr0_1 hc0_1
 have HR0_2 := Aside0.mk hr0_2
 have HC0_2 := Aside0.mk hc0_2
 clear hr0_2 hc0_2
 have HR0_3 := Aside0.mk hr0_3
 have HC0_3 := Aside0.mk hc0_3
 clear hr0_3 hc0_3
 have HR0_4 := Aside0.mk hr0_4
 have HC0_4 := Aside0.mk hc0_4
 clear hr0_4 hc0_4
 have HR0_5 := Aside0.mk hr0_5
 have HC0_5 := Aside0.mk hc0_5
 clear hr0_5 hc0_5
 have HR2 := Aside0.mk hr2
 have HC2 := Aside0.mk hc2
 clear hr2 hc2
 have HB := Aside0.mk (Below.refl w.heap.size w)
 have H : (spec_l06Neighbours.l0 k a1 l2 (([] : List Int)) 0 l0_0 l0_1 l0_2 l0_3 l0_4 l0_5) = some r := h
 clear h
 obtain ⟨y262, hy262⟩ : ∃ y_ : List Int, y_ = (([] : List Int)) := ⟨_, rfl⟩
 replace H : (spec_l06Neighbours.l0 k a1 l2 y262 0 l0_0 l0_1 l0_2 l0_3 l0_4 l0_5) = some r := by first | (rw [hy262]; with_reducible exact H) | (have H2_ := (Option.bind_some _ _).symm.trans H; rw [hy262]; with_reducible exact H2_) | (have H2_ := (Option.bind_some _ _).symm.trans H; with_reducible exact H2_) | with_reducible exact H | (rw [hy262]; exact H) | exact H
 have Ny262 := Aside0.mk hy262
 clear hy262
 have H' := Aside0.mk H
 clear H
 go_enter Try.func63, Try.ntmps63
 go_wp2_with (first | ((with_reducible refine gate_dst (N := 3) rfl ?_); refine box_event ?hg (N := 3) ?hd (cs := #[.slice A0_0 l0_0.length c0_0, .slice A0_1 l0_1.length c0_1, .slice A0_2 l0_2.length c0_2, .slice A0_3 l0_3.length c0_3, .slice A0_4 l0_4.length c0_4, .slice A0_5 l0_5.length c0_5]) (t := 38) ?hr ?_; (case hd => rfl); (case hg => rfl); (case hr => first | (go_simp; done) | (go_simp; rfl)); intro gb261 hg w4 hbox hb; have n0_ := Aside0.mk (below_step (by repeat (first | (with_reducible first | exact HB.out | apply below_alloc | apply pw_below_drewN | apply below_drew1) | exact HB.out)) hb); have n1_ := Aside0.mk (hbox); have n2_ := Aside0.mk ((by rw [hg]; exact (below_size (by repeat (first | (with_reducible first | exact HB.out | apply below_alloc | apply pw_below_drewN | apply below_drew1) | exact HB.out))) : w.heap.size ≤ gb261)); have n3_ := Aside0.mk ((by rw [hg]; exact (below_size (by repeat (first | (with_reducible first | exact HB.out | apply below_alloc | apply pw_below_drewN | apply below_drew1) | exact HB.out))) : w.heap.size ≤ gb261)); clear HB; have HB := n0_; have BK261 := n1_; have GW261 := n2_; have GE261 := n3_; clear n0_ n1_ n2_ n3_; clear hb hbox hg) | ((with_reducible refine gate_dst (N := 10) rfl ?_); refine Kd.R_lit (Kd.int .i64) _ 3 ?hg (N := 10) ?hd (xs := ([] : List Int)) (inner := []) (ok := fun _ => True) (okp := fun _ => True) ?hr ?hp (fun _ hk => hk) trivial (Below.refl _ _) (Nat.le_refl _) (by simp) ?_; (case hd => rfl); (case hg => rfl); (case hr => first | (go_simp; done) | (go_simp; rfl)); (case hp => exact (Reps.none _ _)); intro v263 w5 ho6 hb hg_ hnew_; clear hg_ hnew_; (first | rw [← Ny262.out] at ho6 | (simp only [Int.reduceToNat] at ho6; rw [← Ny262.out] at ho6)); have n0_ := Aside0.mk (Kd.R_lower ho6 (below_size (by repeat (first | (with_reducible first | exact HB.out | apply below_alloc | apply pw_below_drewN | apply below_drew1 | refine below_set ?_ GE261.out) | exact HB.out)))); have n1_ := Aside0.mk (blk_below (g := gb261) (o := .cells #[.slice A0_0 l0_0.length c0_0, .slice A0_1 l0_1.length c0_1, .slice A0_2 l0_2.length c0_2, .slice A0_3 l0_3.length c0_3, .slice A0_4 l0_4.length c0_4, .slice A0_5 l0_5.length c0_5] 38 (0, 0)) (by (with_reducible repeat (first | refine blk_drewN ?_ _ | refine blk_drew ?_ | refine blk_alloc ?_ _)); exact BK261.out) hb); have n2_ := Aside0.mk (below_step (by repeat (first | (with_reducible first | exact HB.out | apply below_alloc | apply pw_below_drewN | apply below_drew1 | refine below_set ?_ GE261.out) | exact HB.out)) hb); clear BK261; clear HB; have HO264 := n0_; have BK261 := n1_; have HB := n2_; clear n0_ n1_ n2_; clear hb ho6))
 go_loopg [7, 8] k (fun kq v7 v8 w' => ∃ (x7_1 : List Int) (x8_1 : Int), v8 = .int .i64 x8_1 ∧ Aside0 (spec_l06Neighbours.l0 kq a1 l2 x7_1 x8_1 l0_0 l0_1 l0_2 l0_3 l0_4 l0_5 = some r) ∧ Aside0 (kq ≤ k) ∧ Aside0 (Kd.R (Kd.int .i64) 3 w' w.heap.size (fun _ => True) v7 x7_1) ∧ Aside0 (w'.heap[gb261]? = some (.cells #[(.slice A0_0 l0_0.length c0_0), (.slice A0_1 l0_1.length c0_1), (.slice A0_2 l0_2.length c0_2), (.slice A0_3 l0_3.length c0_3), (.slice A0_4 l0_4.length c0_4), (.slice A0_5 l0_5.length c0_5)] 38 (0, 0))) ∧ Aside0 (Below w.heap.size w w'))
 case atStart => exact ⟨(y262), (0), (by first | rfl | (simp; done) | (simp [*]; done)), H', ⟨Nat.le_refl _⟩, ⟨by (with_reducible repeat (first | apply Kd.R_alloc | apply Kd.R_drewN | apply Kd.R_drew)); exact HO264.out⟩, ⟨by (with_reducible repeat (first | refine blk_drewN ?_ _ | refine blk_drew ?_ | refine blk_alloc ?_ _)); exact BK261.out⟩, ⟨by repeat (first | (with_reducible first | exact HB.out | apply below_alloc | apply pw_below_drewN | apply below_drew1 | refine below_set ?_ GE261.out) | exact HB.out)⟩⟩
 case round =>
  clear H'
  try clear c2
  try clear p2
  try clear c6
  obtain ⟨x7_1, x8_1, rfl, HA, HK1, HO_7, BK261, HB⟩ := hrel
  cases gk with
  | zero => exact absurd HA.out (by simp [spec_l06Neighbours.l0])
  | succ k1 =>
   have H := HA.out
   clear HA
   simp only [spec_l06Neighbours.l0] at H
   by_cases c7 : x8_1 < (l0_0.length : Int)
   ·rw [if_pos c7] at H
    have c7b0 : decide (x8_1 < (l0_0.length : Int)) = true := decide_eq_true c7
    clear c7
    replace H := Option.bind_eq_some_iff.mp H
    obtain ⟨t265, A80, H⟩ := H
    replace H : (if t265 ≥ 0 then (if 0 ≤ t265 then (if t265 < (l2.length : Int) then (if rdOf false l2 t265 = true then (spec_l06Neighbours.l0 k1 a1 l2 x7_1 (wrap64 (x8_1 + 1)) l0_0 l0_1 l0_2 l0_3 l0_4 l0_5) else (if x7_1.length < 17592186044416 then (spec_l06Neighbours.l0 k1 a1 l2 (x7_1 ++ [x8_1]) (wrap64 (x8_1 + 1)) l0_0 l0_1 l0_2 l0_3 l0_4 l0_5) else (none))) else (none)) else (none)) else (spec_l06Neighbours.l0 k1 a1 l2 x7_1 (wrap64 (x8_1 + 1)) l0_0 l0_1 l0_2 l0_3 l0_4 l0_5)) = some r := H
    have A8 := Aside0.mk A80
    clear A80
    by_cases c9 : t265 ≥ 0
    ·rw [if_pos c9] at H
     have c9b0 : decide (0 ≤ t265) = true := decide_eq_true c9
     clear c9
     by_cases c10 : 0 ≤ t265
     ·rw [if_pos c10] at H
      have c10b0 : decide (0 ≤ t265) = true := decide_eq_true c10
      clear c10
      by_cases c11 : t265 < (l2.length : Int)
      ·rw [if_pos c11] at H
       have c11b0 : decide (t265 < (l2.length : Int)) = true := decide_eq_true c11
       clear c11
       obtain ⟨bq12, hbq12⟩ : ∃ b_ : Bool, b_ = (rdOf false l2 t265) := ⟨_, rfl⟩
       replace H : (if bq12 = true then (spec_l06Neighbours.l0 k1 a1 l2 x7_1 (wrap64 (x8_1 + 1)) l0_0 l0_1 l0_2 l0_3 l0_4 l0_5) else (if x7_1.length < 17592186044416 then (spec_l06Neighbours.l0 k1 a1 l2 (x7_1 ++ [x8_1]) (wrap64 (x8_1 + 1)) l0_0 l0_1 l0_2 l0_3 l0_4 l0_5) else (none))) = some r := by rw [← hbq12] at H; exact H
       have Nbq12 := Aside0.mk hbq12
       clear hbq12
       by_cases c13 : bq12 = true
       ·subst c13
        have H1 : (spec_l06Neighbours.l0 k1 a1 l2 x7_1 (wrap64 (x8_1 + 1)) l0_0 l0_1 l0_2 l0_3 l0_4 l0_5) = some r := by rw [if_pos rfl] at H; exact H
        clear H
        have H := H1
        clear H1
        have H' := Aside0.mk H
        clear H
        have hcz14_0 : wr.cell? ⟨gb261, 0, none⟩ = some (.slice A0_0 l0_0.length c0_0) := (blk_cell BK261.out 0).trans rfl
        have hcz14_1 : wr.cell? ⟨gb261, 1, none⟩ = some (.slice A0_1 l0_1.length c0_1) := (blk_cell BK261.out 1).trans rfl
        have hcz14_2 : wr.cell? ⟨gb261, 2, none⟩ = some (.slice A0_2 l0_2.length c0_2) := (blk_cell BK261.out 2).trans rfl
        have hcz14_3 : wr.cell? ⟨gb261, 3, none⟩ = some (.slice A0_3 l0_3.length c0_3) := (blk_cell BK261.out 3).trans rfl
        have hcz14_4 : wr.cell? ⟨gb261, 4, none⟩ = some (.slice A0_4 l0_4.length c0_4) := (blk_cell BK261.out 4).trans rfl
        have hcz14_5 : wr.cell? ⟨gb261, 5, none⟩ = some (.slice A0_5 l0_5.length c0_5) := (blk_cell BK261.out 5).trans rfl
        have hfz14_0 := blk_frozen BK261.out 0
        have hfz14_1 := blk_frozen BK261.out 1
        have hfz14_2 := blk_frozen BK261.out 2
        have hfz14_3 := blk_frozen BK261.out 3
        have hfz14_4 := blk_frozen BK261.out 4
        have hfz14_5 := blk_frozen BK261.out 5
        go_wp2_with (first | ((with_reducible refine gate_callee (f := 61) rfl ?_); refine goesL_ (some 22) rfl rfl Try.func61 (by kernel_rfl) rfl #[.slice A0_1 l0_1.length c0_1, .int .i64 a1, .int .i64 x8_1] rfl (by (try simp only [List.map_toArray, List.map_cons, List.map_nil]); first | done | rfl | (simp only [List.length_drop, List.length_take]; rfl)) ?_; (with_reducible refine (spec_l06Link.calls k1 _ _ l0_1 a1 x8_1 t265 _ ?side1 ?side2 A8.out).mono ?_); (case side1 => repeat (first | exact (Kd.C_below HR0_1.out HB.out) | (with_reducible refine Kd.C_alloc ?_ _) | (with_reducible refine Kd.C_drewN ?_ _) | (with_reducible refine Kd.C_drew ?_))); (case side2 => exact HC0_1.out); rintro e w' ⟨rfl, ⟨nd, rfl⟩⟩; refine ⟨_, rfl, ?_⟩; have p266 : 0 ≤ (t265 : Int) := of_decide_eq_true (by first | (with_reducible assumption) | assumption); have q266 : t265 < (l2.length : Int) := of_decide_eq_true (by first | (with_reducible assumption) | assumption); obtain ⟨ad266, e266, hx266_0⟩ := Kd.at_bool HR2.out t265 p266 q266; (try rw [← Nbq12.out] at hx266_0); cases e266; replace hx266_0 := (HB.out.cell (World.block_lt_of_cell? w _ hx266_0)).trans hx266_0; replace p266 := eq_true p266; replace q266 := eq_true q266))
        go_roundg k1
        case measure => have := HK1.out; omega
        case rel => exact ⟨(x7_1), (wrap64 (x8_1 + 1)), (by first | rfl | (simp; done) | (simp [*]; done)), H', ⟨by have := HK1.out; omega⟩, ⟨by (with_reducible repeat (first | apply Kd.R_alloc | apply Kd.R_drewN | apply Kd.R_drew)); exact HO_7.out⟩, ⟨by (with_reducible repeat (first | refine blk_drewN ?_ _ | refine blk_drew ?_ | refine blk_alloc ?_ _)); exact BK261.out⟩, ⟨by repeat (first | (with_reducible first | exact HB.out | apply below_alloc | apply pw_below_drewN | apply below_drew1 | refine below_set ?_ GE261.out) | exact HB.out)⟩⟩
       ·replace c13 := Bool.eq_false_iff.mpr c13
        subst c13
        have H1 : (if x7_1.length < 17592186044416 then (spec_l06Neighbours.l0 k1 a1 l2 (x7_1 ++ [x8_1]) (wrap64 (x8_1 + 1)) l0_0 l0_1 l0_2 l0_3 l0_4 l0_5) else (none)) = some r := by rw [if_neg (show ¬ (false = true) by decide)] at H; exact H
        clear H
        have H := H1
        clear H1
        by_cases c15 : x7_1.length < 17592186044416
        ·rw [if_pos c15] at H
         have LMc15 := Aside0.mk c15
         clear c15
         obtain ⟨y267, hy267⟩ : ∃ y_ : List Int, y_ = (x7_1 ++ [x8_1]) := ⟨_, rfl⟩
         replace H : (spec_l06Neighbours.l0 k1 a1 l2 y267 (wrap64 (x8_1 + 1)) l0_0 l0_1 l0_2 l0_3 l0_4 l0_5) = some r := by first | (rw [hy267]; with_reducible exact H) | (have H2_ := (Option.bind_some _ _).symm.trans H; rw [hy267]; with_reducible exact H2_) | (have H2_ := (Option.bind_some _ _).symm.trans H; with_reducible exact H2_) | with_reducible exact H | (rw [hy267]; exact H) | exact H
         have Ny267 := Aside0.mk hy267
         clear hy267
         have H' := Aside0.mk H
         clear H
         have hcz16_0 : wr.cell? ⟨gb261, 0, none⟩ = some (.slice A0_0 l0_0.length c0_0) := (blk_cell BK261.out 0).trans rfl
         have hcz16_1 : wr.cell? ⟨gb261, 1, none⟩ = some (.slice A0_1 l0_1.length c0_1) := (blk_cell BK261.out 1).trans rfl
         have hcz16_2 : wr.cell? ⟨gb261, 2, none⟩ = some (.slice A0_2 l0_2.length c0_2) := (blk_cell BK261.out 2).trans rfl
         have hcz16_3 : wr.cell? ⟨gb261, 3, none⟩ = some (.slice A0_3 l0_3.length c0_3) := (blk_cell BK261.out 3).trans rfl
         have hcz16_4 : wr.cell? ⟨gb261, 4, none⟩ = some (.slice A0_4 l0_4.length c0_4) := (blk_cell BK261.out 4).trans rfl
         have hcz16_5 : wr.cell? ⟨gb261, 5, none⟩ = some (.slice A0_5 l0_5.length c0_5) := (blk_cell BK261.out 5).trans rfl
         have hfz16_0 := blk_frozen BK261.out 0
         have hfz16_1 := blk_frozen BK261.out 1
         have hfz16_2 := blk_frozen BK261.out 2
         have hfz16_3 := blk_frozen BK261.out 3
         have hfz16_4 := blk_frozen BK261.out 4
         have hfz16_5 := blk_frozen BK261.out 5
         go_wp2_with (first | ((with_reducible refine gate_callee (f := 61) rfl ?_); refine goesL_ (some 22) rfl rfl Try.func61 (by kernel_rfl) rfl #[.slice A0_1 l0_1.length c0_1, .int .i64 a1, .int .i64 x8_1] rfl (by (try simp only [List.map_toArray, List.map_cons, List.map_nil]); first | done | rfl | (simp only [List.length_drop, List.length_take]; rfl)) ?_; (with_reducible refine (spec_l06Link.calls k1 _ _ l0_1 a1 x8_1 t265 _ ?side1 ?side2 A8.out).mono ?_); (case side1 => repeat (first | exact (Kd.C_below HR0_1.out HB.out) | (with_reducible refine Kd.C_alloc ?_ _) | (with_reducible refine Kd.C_drewN ?_ _) | (with_reducible refine Kd.C_drew ?_))); (case side2 => exact HC0_1.out); rintro e w' ⟨rfl, ⟨nd, rfl⟩⟩; refine ⟨_, rfl, ?_⟩; have p266 : 0 ≤ (t265 : Int) := of_decide_eq_true (by first | (with_reducible assumption) | assumption); have q266 : t265 < (l2.length : Int) := of_decide_eq_true (by first | (with_reducible assumption) | assumption); obtain ⟨ad266, e266, hx266_0⟩ := Kd.at_bool HR2.out t265 p266 q266; (try rw [← Nbq12.out] at hx266_0); cases e266; replace hx266_0 := (HB.out.cell (World.block_lt_of_cell? w _ hx266_0)).trans hx266_0; replace p266 := eq_true p266; replace q266 := eq_true q266) | ((with_reducible refine gate_builtin (b := .append) (xs := #[.tmp 32, .tmp 34]) rfl ?_); at_builtin; refine Kd.R_append (Kd.int .i64) (w0 := w) w.heap.size rfl (.tmp 32) (.tmp 34) 24 3 (.int .i64 0) 8 rfl Try.underlying24 info3 rfl (by decide) (by omega) u7 x7_1 x8_1 [.int .i64 x8_1] (fun _ => True) (fun _ => False) rfl rfl ?aP (fun _ hk => hk.elim) ?aF ?aO ?aB ?aS ?aL ?_; (case aP => exact rfl); (case aB => exact (by repeat (first | (with_reducible first | exact HB.out | apply below_alloc | apply pw_below_drewN | apply below_drew1 | refine below_set ?_ GE261.out) | exact HB.out))); (case aF => exact (fun _ _ => trivial)); (case aO => exact (by (with_reducible repeat (first | apply Kd.R_alloc | apply Kd.R_drewN | apply Kd.R_drew)); exact HO_7.out)); (case aS => exact (below_size (by repeat (first | (with_reducible first | exact HB.out | apply below_alloc | apply pw_below_drewN | apply below_drew1 | refine below_set ?_ GE261.out) | exact HB.out)))); (case aL => have := LMc15.out; omega); intro v268 w17 ho hb hg hat; rw [← Ny267.out] at ho; have n0_ := Aside0.mk (blk_grown (g := gb261) (o := .cells #[.slice A0_0 l0_0.length c0_0, .slice A0_1 l0_1.length c0_1, .slice A0_2 l0_2.length c0_2, .slice A0_3 l0_3.length c0_3, .slice A0_4 l0_4.length c0_4, .slice A0_5 l0_5.length c0_5] 38 (0, 0)) (by (with_reducible repeat (first | refine blk_drewN ?_ _ | refine blk_drew ?_ | refine blk_alloc ?_ _)); exact BK261.out) hg (Kd.R_ne HO_7.out BK261.out (by decide))); have n1_ := Aside0.mk (hb); have n2_ := Aside0.mk (ho); clear BK261; clear HB; clear HO_7; have BK261 := n0_; have HB := n1_; have HO269 := n2_; clear n0_ n1_ n2_; clear ho hb hg hat))
         go_roundg k1
         case measure => have := HK1.out; omega
         case rel => exact ⟨(y267), (wrap64 (x8_1 + 1)), (by first | rfl | (simp; done) | (simp [*]; done)), H', ⟨by have := HK1.out; omega⟩, ⟨by (with_reducible repeat (first | apply Kd.R_alloc | apply Kd.R_drewN | apply Kd.R_drew)); exact HO269.out⟩, ⟨by (with_reducible repeat (first | refine blk_drewN ?_ _ | refine blk_drew ?_ | refine blk_alloc ?_ _)); exact BK261.out⟩, ⟨by repeat (first | (with_reducible first | exact HB.out | apply below_alloc | apply pw_below_drewN | apply below_drew1 | refine below_set ?_ GE261.out) | exact HB.out)⟩⟩
        ·rw [if_neg c15] at H
         exact absurd H (by simp)
      ·rw [if_neg c11] at H
       exact absurd H (by simp)
     ·rw [if_neg c10] at H
      exact absurd H (by simp)
    ·rw [if_neg c9] at H
     have c9b0 : decide (0 ≤ t265) = false := decide_eq_false c9
     clear c9
     have H' := Aside0.mk H
     clear H
     have hcz18_0 : wr.cell? ⟨gb261, 0, none⟩ = some (.slice A0_0 l0_0.length c0_0) := (blk_cell BK261.out 0).trans rfl
     have hcz18_1 : wr.cell? ⟨gb261, 1, none⟩ = some (.slice A0_1 l0_1.length c0_1) := (blk_cell BK261.out 1).trans rfl
     have hcz18_2 : wr.cell? ⟨gb261, 2, none⟩ = some (.slice A0_2 l0_2.length c0_2) := (blk_cell BK261.out 2).trans rfl
     have hcz18_3 : wr.cell? ⟨gb261, 3, none⟩ = some (.slice A0_3 l0_3.length c0_3) := (blk_cell BK261.out 3).trans rfl
     have hcz18_4 : wr.cell? ⟨gb261, 4, none⟩ = some (.slice A0_4 l0_4.length c0_4) := (blk_cell BK261.out 4).trans rfl
     have hcz18_5 : wr.cell? ⟨gb261, 5, none⟩ = some (.slice A0_5 l0_5.length c0_5) := (blk_cell BK261.out 5).trans rfl
     have hfz18_0 := blk_frozen BK261.out 0
     have hfz18_1 := blk_frozen BK261.out 1
     have hfz18_2 := blk_frozen BK261.out 2
     have hfz18_3 := blk_frozen BK261.out 3
     have hfz18_4 := blk_frozen BK261.out 4
     have hfz18_5 := blk_frozen BK261.out 5
     go_wp2_with (first | ((with_reducible refine gate_callee (f := 61) rfl ?_); refine goesL_ (some 22) rfl rfl Try.func61 (by kernel_rfl) rfl #[.slice A0_1 l0_1.length c0_1, .int .i64 a1, .int .i64 x8_1] rfl (by (try simp only [List.map_toArray, List.map_cons, List.map_nil]); first | done | rfl | (simp only [List.length_drop, List.length_take]; rfl)) ?_; (with_reducible refine (spec_l06Link.calls k1 _ _ l0_1 a1 x8_1 t265 _ ?side1 ?side2 A8.out).mono ?_); (case side1 => repeat (first | exact (Kd.C_below HR0_1.out HB.out) | (with_reducible refine Kd.C_alloc ?_ _) | (with_reducible refine Kd.C_drewN ?_ _) | (with_reducible refine Kd.C_drew ?_))); (case side2 => exact HC0_1.out); rintro e w' ⟨rfl, ⟨nd, rfl⟩⟩; refine ⟨_, rfl, ?_⟩))
     go_roundg k1
     case measure => have := HK1.out; omega
     case rel => exact ⟨(x7_1), (wrap64 (x8_1 + 1)), (by first | rfl | (simp; done) | (simp [*]; done)), H', ⟨by have := HK1.out; omega⟩, ⟨by (with_reducible repeat (first | apply Kd.R_alloc | apply Kd.R_drewN | apply Kd.R_drew)); exact HO_7.out⟩, ⟨by (with_reducible repeat (first | refine blk_drewN ?_ _ | refine blk_drew ?_ | refine blk_alloc ?_ _)); exact BK261.out⟩, ⟨by repeat (first | (with_reducible first | exact HB.out | apply below_alloc | apply pw_below_drewN | apply below_drew1 | refine below_set ?_ GE261.out) | exact HB.out)⟩⟩
   ·rw [if_neg c7] at H
    have c7b0 : decide (x8_1 < (l0_0.length : Int)) = false := decide_eq_false c7
    clear c7
    obtain rfl := Option.some.inj H
    have hcz19_0 : wr.cell? ⟨gb261, 0, none⟩ = some (.slice A0_0 l0_0.length c0_0) := (blk_cell BK261.out 0).trans rfl
    have hcz19_1 : wr.cell? ⟨gb261, 1, none⟩ = some (.slice A0_1 l0_1.length c0_1) := (blk_cell BK261.out 1).trans rfl
    have hcz19_2 : wr.cell? ⟨gb261, 2, none⟩ = some (.slice A0_2 l0_2.length c0_2) := (blk_cell BK261.out 2).trans rfl
    have hcz19_3 : wr.cell? ⟨gb261, 3, none⟩ = some (.slice A0_3 l0_3.length c0_3) := (blk_cell BK261.out 3).trans rfl
    have hcz19_4 : wr.cell? ⟨gb261, 4, none⟩ = some (.slice A0_4 l0_4.length c0_4) := (blk_cell BK261.out 4).trans rfl
    have hcz19_5 : wr.cell? ⟨gb261, 5, none⟩ = some (.slice A0_5 l0_5.length c0_5) := (blk_cell BK261.out 5).trans rfl
    have hfz19_0 := blk_frozen BK261.out 0
    have hfz19_1 := blk_frozen BK261.out 1
    have hfz19_2 := blk_frozen BK261.out 2
    have hfz19_3 := blk_frozen BK261.out 3
    have hfz19_4 := blk_frozen BK261.out 4
    have hfz19_5 := blk_frozen BK261.out 5
    go_wp2
    go_ret
    exact ⟨_, by first | rfl | (simp [errW_none, errW_some] <;> rfl) | (simp [*, errW_none, errW_some] <;> rfl), by (with_reducible repeat (first | apply Kd.R_alloc | apply Kd.R_drewN | apply Kd.R_drew)); exact HO_7.out, by repeat (first | (with_reducible first | exact HB.out | apply below_alloc | apply pw_below_drewN | apply below_drew1 | refine below_set ?_ GE261.out) | exact HB.out)⟩
def spec_Neighbours.f (k : Nat) (l0_0 : List ByteArray) (l0_1 : List (S92)) (l0_2 : List Int) (l0_3 : List Int) (l0_4 : List (S95)) (l0_5 : List (S97)) (a1 : Int) (l2 : List Bool) : Option (List Int × Int) := if (l2.length : Int) > 4096 then (some ((([] : List Int)), 2)) else ((spec_NetOK.f k l0_0 l0_1 l0_2 l0_3 l0_4 l0_5).bind fun t274 => (if t274 = true then ((spec_l01In.f a1 0 (wrap64 ((l0_0.length : Int) - 1))).bind fun t278 => (if t278 = true then (if (l2.length : Int) = (l0_1.length : Int) then ((spec_l06Neighbours.f k l0_0 l0_1 l0_2 l0_3 l0_4 l0_5 a1 l2).bind fun t279 => (some (t279, 0))) else (some ((([] : List Int)), 5))) else (some ((([] : List Int)), 5)))) else (some ((([] : List Int)), 1))))
set_option maxHeartbeats 8000000 in
set_option maxRecDepth 100000 in
theorem spec_Neighbours.calls (k : Nat) (A0_0 : Option Addr) (c0_0 : Nat) (l0_0 : List ByteArray) (A0_1 : Option Addr) (c0_1 : Nat) (l0_1 : List (S92)) (A0_2 : Option Addr) (c0_2 : Nat) (l0_2 : List Int) (A0_3 : Option Addr) (c0_3 : Nat) (l0_3 : List Int) (A0_4 : Option Addr) (c0_4 : Nat) (l0_4 : List (S95)) (A0_5 : Option Addr) (c0_5 : Nat) (l0_5 : List (S97)) (a1 : Int) (A2 : Option Addr) (c2 : Nat) (l2 : List Bool) (r1 : List Int) (r2 : Int) (w : World) (hr0_0 : Kd.C Kd.string w A0_0 l0_0.length l0_0) (hc0_0 : l0_0.length ≤ c0_0) (hr0_1 : Kd.C k92 w A0_1 l0_1.length l0_1) (hc0_1 : l0_1.length ≤ c0_1) (hr0_2 : Kd.C (Kd.int .i64) w A0_2 l0_2.length l0_2) (hc0_2 : l0_2.length ≤ c0_2) (hr0_3 : Kd.C (Kd.int .i64) w A0_3 l0_3.length l0_3) (hc0_3 : l0_3.length ≤ c0_3) (hr0_4 : Kd.C k95 w A0_4 l0_4.length l0_4) (hc0_4 : l0_4.length ≤ c0_4) (hr0_5 : Kd.C k97 w A0_5 l0_5.length l0_5) (hc0_5 : l0_5.length ≤ c0_5) (hr2 : Kd.C Kd.bool w A2 l2.length l2) (hc2 : l2.length ≤ c2) (h : spec_Neighbours.f k l0_0 l0_1 l0_2 l0_3 l0_4 l0_5 a1 l2 = some (r1, r2)) :
  Calls Try.prog 25 #[.agg #[.slice A0_0 l0_0.length c0_0, .slice A0_1 l0_1.length c0_1, .slice A0_2 l0_2.length c0_2, .slice A0_3 l0_3.length c0_3, .slice A0_4 l0_4.length c0_4, .slice A0_5 l0_5.length c0_5], .int .i64 a1, .slice A2 l2.length c2] w fun e w' => ∃ v0_ : Value, e = .returned (.tuple #[v0_, .int .i64 r2]) ∧ Kd.R (Kd.int .i64) 3 w' w.heap.size (fun _ => True) v0_ r1 ∧ Below w.heap.size w w' := by
 have hu38 := Try.underlying38
 have HR0_0 := Aside0.mk hr0_0
 have HC0_0 := Aside0.mk hc0_0
 clear hr0_0 hc0_0
 have HR0_1 := Aside0.mk hr0_1
 have HC0_1 := Aside0.mk hc0_1
 clear hr0_1 hc0_1
 have HR0_2 := Aside0.mk hr0_2
 have HC0_2 := Aside0.mk hc0_2
 clear hr0_2 hc0_2
 have HR0_3 := Aside0.mk hr0_3
 have HC0_3 := Aside0.mk hc0_3
 clear hr0_3 hc0_3
 have HR0_4 := Aside0.mk hr0_4
 have HC0_4 := Aside0.mk hc0_4
 clear hr0_4 hc0_4
 have HR0_5 := Aside0.mk hr0_5
 have HC0_5 := Aside0.mk hc0_5
 clear hr0_5 hc0_5
 have HR2 := Aside0.mk hr2
 have HC2 := Aside0.mk hc2
 clear hr2 hc2
 have HB := Aside0.mk (Below.refl w.heap.size w)
 have H : (if (l2.length : Int) > 4096 then (some ((([] : List Int)), 2)) else ((spec_NetOK.f k l0_0 l0_1 l0_2 l0_3 l0_4 l0_5).bind fun t274 => (if t274 = true then ((spec_l01In.f a1 0 (wrap64 ((l0_0.length : Int) - 1))).bind fun t278 => (if t278 = true then (if (l2.length : Int) = (l0_1.length : Int) then ((spec_l06Neighbours.f k l0_0 l0_1 l0_2 l0_3 l0_4 l0_5 a1 l2).bind fun t279 => (some (t279, 0))) else (some ((([] : List Int)), 5))) else (some ((([] : List Int)), 5)))) else (some ((([] : List Int)), 1))))) = some (r1, r2) := h
 clear h
 by_cases c4 : (l2.length : Int) > 4096
 ·rw [if_pos c4] at H
  have c4b0 : decide (4096 < (l2.length : Int)) = true := decide_eq_true c4
  have c4b1 : decide (4096 < l2.length) = true := decide_eq_true (by omega)
  clear c4
  obtain ⟨y271, hy271⟩ : ∃ y_ : List Int, y_ = (([] : List Int)) := ⟨_, rfl⟩
  replace H : (some (y271, 2)) = some (r1, r2) := by first | (rw [hy271]; with_reducible exact H) | (have H2_ := (Option.bind_some _ _).symm.trans H; rw [hy271]; with_reducible exact H2_) | (have H2_ := (Option.bind_some _ _).symm.trans H; with_reducible exact H2_) | with_reducible exact H | (rw [hy271]; exact H) | exact H
  have Ny271 := Aside0.mk hy271
  clear hy271
  simp only [Option.some.injEq, Prod.mk.injEq] at H
  obtain ⟨rfl, rfl⟩ := H
  go_enter Try.func25, Try.ntmps25
  go_wp2_with (first | ((with_reducible refine gate_dst (N := 3) rfl ?_); (try (refine gate_guard (by rfl) ?_; dsimp only)); refine box_event ?hg (N := 3) ?hd (cs := #[.slice A0_0 l0_0.length c0_0, .slice A0_1 l0_1.length c0_1, .slice A0_2 l0_2.length c0_2, .slice A0_3 l0_3.length c0_3, .slice A0_4 l0_4.length c0_4, .slice A0_5 l0_5.length c0_5]) (t := 38) ?hr ?_; (case hd => rfl); (case hg => rfl); (case hr => first | (go_simp; done) | (go_simp; rfl)); intro gb270 hg w5 hbox hb; have n0_ := Aside0.mk (below_step (by repeat (first | (with_reducible first | exact HB.out | apply below_alloc | apply pw_below_drewN | apply below_drew1) | exact HB.out)) hb); have n1_ := Aside0.mk (hbox); have n2_ := Aside0.mk ((by rw [hg]; exact (below_size (by repeat (first | (with_reducible first | exact HB.out | apply below_alloc | apply pw_below_drewN | apply below_drew1) | exact HB.out))) : w.heap.size ≤ gb270)); have n3_ := Aside0.mk ((by rw [hg]; exact (below_size (by repeat (first | (with_reducible first | exact HB.out | apply below_alloc | apply pw_below_drewN | apply below_drew1) | exact HB.out))) : w.heap.size ≤ gb270)); clear HB; have HB := n0_; have BK270 := n1_; have GW270 := n2_; have GE270 := n3_; clear n0_ n1_ n2_ n3_; clear hb hbox hg) | ((with_reducible refine gate_dst (N := 11) rfl ?_); (try (refine gate_guard (by rfl) ?_; dsimp only)); refine Kd.R_lit (Kd.int .i64) _ 3 ?hg (N := 11) ?hd (xs := ([] : List Int)) (inner := []) (ok := fun _ => True) (okp := fun _ => True) ?hr ?hp (fun _ hk => hk) trivial (Below.refl _ _) (Nat.le_refl _) (by simp) ?_; (case hd => rfl); (case hg => rfl); (case hr => first | (go_simp; done) | (go_simp; rfl)); (case hp => exact (Reps.none _ _)); intro v272 w6 ho7 hb hg_ hnew_; clear hg_ hnew_; (first | rw [← Ny271.out] at ho7 | (simp only [Int.reduceToNat] at ho7; rw [← Ny271.out] at ho7)); have n0_ := Aside0.mk (Kd.R_lower ho7 (below_size (by repeat (first | (with_reducible first | exact HB.out | apply below_alloc | apply pw_below_drewN | apply below_drew1 | refine below_set ?_ GE270.out) | exact HB.out)))); have n1_ := Aside0.mk (blk_below (g := gb270) (o := .cells #[.slice A0_0 l0_0.length c0_0, .slice A0_1 l0_1.length c0_1, .slice A0_2 l0_2.length c0_2, .slice A0_3 l0_3.length c0_3, .slice A0_4 l0_4.length c0_4, .slice A0_5 l0_5.length c0_5] 38 (0, 0)) (by (with_reducible repeat (first | refine blk_drewN ?_ _ | refine blk_drew ?_ | refine blk_alloc ?_ _)); exact BK270.out) hb); have n2_ := Aside0.mk (below_step (by repeat (first | (with_reducible first | exact HB.out | apply below_alloc | apply pw_below_drewN | apply below_drew1 | refine below_set ?_ GE270.out) | exact HB.out)) hb); clear BK270; clear HB; have HO273 := n0_; have BK270 := n1_; have HB := n2_; clear n0_ n1_ n2_; clear hb ho7))
  go_ret2
  exact ⟨_, by first | rfl | (simp [errW_none, errW_some] <;> rfl) | (simp [*, errW_none, errW_some] <;> rfl), by (with_reducible repeat (first | apply Kd.R_alloc | apply Kd.R_drewN | apply Kd.R_drew)); exact HO273.out, by repeat (first | (with_reducible first | exact HB.out | apply below_alloc | apply pw_below_drewN | apply below_drew1 | refine below_set ?_ GE270.out) | exact HB.out)⟩
 ·rw [if_neg c4] at H
  have c4b0 : decide (4096 < (l2.length : Int)) = false := decide_eq_false c4
  have c4b1 : decide (4096 < l2.length) = false := decide_eq_false (by omega)
  clear c4
  replace H := Option.bind_eq_some_iff.mp H
  obtain ⟨t274, A80, H⟩ := H
  replace H : (if t274 = true then ((spec_l01In.f a1 0 (wrap64 ((l0_0.length : Int) - 1))).bind fun t278 => (if t278 = true then (if (l2.length : Int) = (l0_1.length : Int) then ((spec_l06Neighbours.f k l0_0 l0_1 l0_2 l0_3 l0_4 l0_5 a1 l2).bind fun t279 => (some (t279, 0))) else (some ((([] : List Int)), 5))) else (some ((([] : List Int)), 5)))) else (some ((([] : List Int)), 1))) = some (r1, r2) := H
  have A8 := Aside0.mk A80
  clear A80
  by_cases c9 : t274 = true
  ·subst c9
   have H1 : ((spec_l01In.f a1 0 (wrap64 ((l0_0.length : Int) - 1))).bind fun t278 => (if t278 = true then (if (l2.length : Int) = (l0_1.length : Int) then ((spec_l06Neighbours.f k l0_0 l0_1 l0_2 l0_3 l0_4 l0_5 a1 l2).bind fun t279 => (some (t279, 0))) else (some ((([] : List Int)), 5))) else (some ((([] : List Int)), 5)))) = some (r1, r2) := by rw [if_pos rfl] at H; exact H
   clear H
   have H := H1
   clear H1
   replace H := Option.bind_eq_some_iff.mp H
   obtain ⟨t278, A100, H⟩ := H
   replace H : (if t278 = true then (if (l2.length : Int) = (l0_1.length : Int) then ((spec_l06Neighbours.f k l0_0 l0_1 l0_2 l0_3 l0_4 l0_5 a1 l2).bind fun t279 => (some (t279, 0))) else (some ((([] : List Int)), 5))) else (some ((([] : List Int)), 5))) = some (r1, r2) := H
   have A10 := Aside0.mk A100
   clear A100
   by_cases c11 : t278 = true
   ·subst c11
    have H1 : (if (l2.length : Int) = (l0_1.length : Int) then ((spec_l06Neighbours.f k l0_0 l0_1 l0_2 l0_3 l0_4 l0_5 a1 l2).bind fun t279 => (some (t279, 0))) else (some ((([] : List Int)), 5))) = some (r1, r2) := by rw [if_pos rfl] at H; exact H
    clear H
    have H := H1
    clear H1
    by_cases c12 : (l2.length : Int) = (l0_1.length : Int)
    ·rw [if_pos c12] at H
     have c12b0 : ((l2.length : Int) == (l0_1.length : Int)) = true := beq_iff_eq.mpr c12
     have c12b1 : ((l2.length : Int) != (l0_1.length : Int)) = false := bne_eq_false_iff_eq.mpr c12
     have c12b2 : (l2.length == l0_1.length) = true := by first | simpa using c12 | (simp at c12 ⊢; omega)
     clear c12
     replace H := Option.bind_eq_some_iff.mp H
     obtain ⟨t279, A130, H⟩ := H
     replace H : (some (t279, 0)) = some (r1, r2) := H
     have A13 := Aside0.mk A130
     clear A130
     simp only [Option.some.injEq, Prod.mk.injEq] at H
     obtain ⟨rfl, rfl⟩ := H
     go_enter Try.func25, Try.ntmps25
     go_wp2_with (first | ((with_reducible refine gate_dst (N := 3) rfl ?_); (try (refine gate_guard (by rfl) ?_; dsimp only)); refine box_event ?hg (N := 3) ?hd (cs := #[.slice A0_0 l0_0.length c0_0, .slice A0_1 l0_1.length c0_1, .slice A0_2 l0_2.length c0_2, .slice A0_3 l0_3.length c0_3, .slice A0_4 l0_4.length c0_4, .slice A0_5 l0_5.length c0_5]) (t := 38) ?hr ?_; (case hd => rfl); (case hg => rfl); (case hr => first | (go_simp; done) | (go_simp; rfl)); intro gb270 hg w14 hbox hb; have n0_ := Aside0.mk (below_step (by repeat (first | (with_reducible first | exact HB.out | apply below_alloc | apply pw_below_drewN | apply below_drew1) | exact HB.out)) hb); have n1_ := Aside0.mk (hbox); have n2_ := Aside0.mk ((by rw [hg]; exact (below_size (by repeat (first | (with_reducible first | exact HB.out | apply below_alloc | apply pw_below_drewN | apply below_drew1) | exact HB.out))) : w.heap.size ≤ gb270)); have n3_ := Aside0.mk ((by rw [hg]; exact (below_size (by repeat (first | (with_reducible first | exact HB.out | apply below_alloc | apply pw_below_drewN | apply below_drew1) | exact HB.out))) : w.heap.size ≤ gb270)); clear HB; have HB := n0_; have BK270 := n1_; have GW270 := n2_; have GE270 := n3_; clear n0_ n1_ n2_ n3_; clear hb hbox hg; have hcz15_0 : w14.cell? ⟨gb270, 0, none⟩ = some (.slice A0_0 l0_0.length c0_0) := (blk_cell BK270.out 0).trans rfl; have hcz15_1 : w14.cell? ⟨gb270, 1, none⟩ = some (.slice A0_1 l0_1.length c0_1) := (blk_cell BK270.out 1).trans rfl; have hcz15_2 : w14.cell? ⟨gb270, 2, none⟩ = some (.slice A0_2 l0_2.length c0_2) := (blk_cell BK270.out 2).trans rfl; have hcz15_3 : w14.cell? ⟨gb270, 3, none⟩ = some (.slice A0_3 l0_3.length c0_3) := (blk_cell BK270.out 3).trans rfl; have hcz15_4 : w14.cell? ⟨gb270, 4, none⟩ = some (.slice A0_4 l0_4.length c0_4) := (blk_cell BK270.out 4).trans rfl; have hcz15_5 : w14.cell? ⟨gb270, 5, none⟩ = some (.slice A0_5 l0_5.length c0_5) := (blk_cell BK270.out 5).trans rfl; have hfz15_0 := blk_frozen BK270.out 0; have hfz15_1 := blk_frozen BK270.out 1; have hfz15_2 := blk_frozen BK270.out 2; have hfz15_3 := blk_frozen BK270.out 3; have hfz15_4 := blk_frozen BK270.out 4; have hfz15_5 := blk_frozen BK270.out 5) | ((with_reducible refine gate_callee (f := 23) rfl ?_); refine goesL_ (some 13) rfl rfl Try.func23 (by kernel_rfl) rfl #[.agg #[.slice A0_0 l0_0.length c0_0, .slice A0_1 l0_1.length c0_1, .slice A0_2 l0_2.length c0_2, .slice A0_3 l0_3.length c0_3, .slice A0_4 l0_4.length c0_4, .slice A0_5 l0_5.length c0_5]] rfl (by (try simp only [List.map_toArray, List.map_cons, List.map_nil]); first | done | rfl | (simp only [List.length_drop, List.length_take]; rfl)) ?_; (with_reducible refine (spec_NetOK.calls k _ _ l0_0 _ _ l0_1 _ _ l0_2 _ _ l0_3 _ _ l0_4 _ _ l0_5 true _ ?side1 ?side2 ?side3 ?side4 ?side5 ?side6 ?side7 ?side8 ?side9 ?side10 ?side11 ?side12 A8.out).mono ?_); (case side1 => repeat (first | exact (Kd.C_below HR0_0.out HB.out) | (with_reducible refine Kd.C_alloc ?_ _) | (with_reducible refine Kd.C_drewN ?_ _) | (with_reducible refine Kd.C_drew ?_))); (case side2 => exact HC0_0.out); (case side3 => repeat (first | exact (Kd.C_below HR0_1.out HB.out) | (with_reducible refine Kd.C_alloc ?_ _) | (with_reducible refine Kd.C_drewN ?_ _) | (with_reducible refine Kd.C_drew ?_))); (case side4 => exact HC0_1.out); (case side5 => repeat (first | exact (Kd.C_below HR0_2.out HB.out) | (with_reducible refine Kd.C_alloc ?_ _) | (with_reducible refine Kd.C_drewN ?_ _) | (with_reducible refine Kd.C_drew ?_))); (case side6 => exact HC0_2.out); (case side7 => repeat (first | exact (Kd.C_below HR0_3.out HB.out) | (with_reducible refine Kd.C_alloc ?_ _) | (with_reducible refine Kd.C_drewN ?_ _) | (with_reducible refine Kd.C_drew ?_))); (case side8 => exact HC0_3.out); (case side9 => repeat (first | exact (Kd.C_below HR0_4.out HB.out) | (with_reducible refine Kd.C_alloc ?_ _) | (with_reducible refine Kd.C_drewN ?_ _) | (with_reducible refine Kd.C_drew ?_))); (case side10 => exact HC0_4.out); (case side11 => repeat (first | exact (Kd.C_below HR0_5.out HB.out) | (with_reducible refine Kd.C_alloc ?_ _) | (with_reducible refine Kd.C_drewN ?_ _) | (with_reducible refine Kd.C_drew ?_))); (case side12 => exact HC0_5.out); rintro e w16 ⟨rfl, hb⟩; refine ⟨_, rfl, ?_⟩; have n0_ := Aside0.mk (blk_below (g := gb270) (o := .cells #[.slice A0_0 l0_0.length c0_0, .slice A0_1 l0_1.length c0_1, .slice A0_2 l0_2.length c0_2, .slice A0_3 l0_3.length c0_3, .slice A0_4 l0_4.length c0_4, .slice A0_5 l0_5.length c0_5] 38 (0, 0)) (by (with_reducible repeat (first | refine blk_drewN ?_ _ | refine blk_drew ?_ | refine blk_alloc ?_ _)); exact BK270.out) hb); have n1_ := Aside0.mk (below_step (by repeat (first | (with_reducible first | exact HB.out | apply below_alloc | apply pw_below_drewN | apply below_drew1 | refine below_set ?_ GE270.out) | exact HB.out)) hb); clear BK270; clear HB; have BK270 := n0_; have HB := n1_; clear n0_ n1_; (try clear hb); (try clear hb2); (try clear hk); (try clear hi); have hcz17_0 : w16.cell? ⟨gb270, 0, none⟩ = some (.slice A0_0 l0_0.length c0_0) := (blk_cell BK270.out 0).trans rfl; have hcz17_1 : w16.cell? ⟨gb270, 1, none⟩ = some (.slice A0_1 l0_1.length c0_1) := (blk_cell BK270.out 1).trans rfl; have hcz17_2 : w16.cell? ⟨gb270, 2, none⟩ = some (.slice A0_2 l0_2.length c0_2) := (blk_cell BK270.out 2).trans rfl; have hcz17_3 : w16.cell? ⟨gb270, 3, none⟩ = some (.slice A0_3 l0_3.length c0_3) := (blk_cell BK270.out 3).trans rfl; have hcz17_4 : w16.cell? ⟨gb270, 4, none⟩ = some (.slice A0_4 l0_4.length c0_4) := (blk_cell BK270.out 4).trans rfl; have hcz17_5 : w16.cell? ⟨gb270, 5, none⟩ = some (.slice A0_5 l0_5.length c0_5) := (blk_cell BK270.out 5).trans rfl; have hfz17_0 := blk_frozen BK270.out 0; have hfz17_1 := blk_frozen BK270.out 1; have hfz17_2 := blk_frozen BK270.out 2; have hfz17_3 := blk_frozen BK270.out 3; have hfz17_4 := blk_frozen BK270.out 4; have hfz17_5 := blk_frozen BK270.out 5) | ((with_reducible refine gate_callee (f := 40) rfl ?_); refine goesL_ (some 21) rfl rfl Try.func40 (by kernel_rfl) rfl #[.int .i64 a1, .int .i64 0, .int .i64 (wrap64 ((l0_0.length : Int) - 1))] rfl (by (try simp only [List.map_toArray, List.map_cons, List.map_nil]); first | done | rfl | (simp only [List.length_drop, List.length_take]; rfl)) ?_; (with_reducible refine (spec_l01In.calls a1 0 (wrap64 ((l0_0.length : Int) - 1)) true _ A10.out).mono ?_); rintro e w' ⟨rfl, ⟨nd, rfl⟩⟩; refine ⟨_, rfl, ?_⟩) | ((with_reducible refine gate_callee (f := 63) rfl ?_); refine goesL_ (some 35) rfl rfl Try.func63 (by kernel_rfl) rfl #[.agg #[.slice A0_0 l0_0.length c0_0, .slice A0_1 l0_1.length c0_1, .slice A0_2 l0_2.length c0_2, .slice A0_3 l0_3.length c0_3, .slice A0_4 l0_4.length c0_4, .slice A0_5 l0_5.length c0_5], .int .i64 a1, .slice A2 l2.length c2] rfl (by (try simp only [List.map_toArray, List.map_cons, List.map_nil]); first | done | rfl | (simp only [List.length_drop, List.length_take]; rfl)) ?_; (with_reducible refine (spec_l06Neighbours.calls k _ _ l0_0 _ _ l0_1 _ _ l0_2 _ _ l0_3 _ _ l0_4 _ _ l0_5 a1 _ _ l2 t279 _ ?side1 ?side2 ?side3 ?side4 ?side5 ?side6 ?side7 ?side8 ?side9 ?side10 ?side11 ?side12 ?side13 ?side14 A13.out).mono ?_); (case side1 => repeat (first | exact (Kd.C_below HR0_0.out (by repeat (first | (with_reducible first | exact HB.out | apply below_alloc | apply pw_below_drewN | apply below_drew1 | refine below_set ?_ GE270.out) | exact HB.out))) | (with_reducible refine Kd.C_alloc ?_ _) | (with_reducible refine Kd.C_drewN ?_ _) | (with_reducible refine Kd.C_drew ?_))); (case side2 => exact HC0_0.out); (case side3 => repeat (first | exact (Kd.C_below HR0_1.out (by repeat (first | (with_reducible first | exact HB.out | apply below_alloc | apply pw_below_drewN | apply below_drew1 | refine below_set ?_ GE270.out) | exact HB.out))) | (with_reducible refine Kd.C_alloc ?_ _) | (with_reducible refine Kd.C_drewN ?_ _) | (with_reducible refine Kd.C_drew ?_))); (case side4 => exact HC0_1.out); (case side5 => repeat (first | exact (Kd.C_below HR0_2.out (by repeat (first | (with_reducible first | exact HB.out | apply below_alloc | apply pw_below_drewN | apply below_drew1 | refine below_set ?_ GE270.out) | exact HB.out))) | (with_reducible refine Kd.C_alloc ?_ _) | (with_reducible refine Kd.C_drewN ?_ _) | (with_reducible refine Kd.C_drew ?_))); (case side6 => exact HC0_2.out); (case side7 => repeat (first | exact (Kd.C_below HR0_3.out (by repeat (first | (with_reducible first | exact HB.out | apply below_alloc | apply pw_below_drewN | apply below_drew1 | refine below_set ?_ GE270.out) | exact HB.out))) | (with_reducible refine Kd.C_alloc ?_ _) | (with_reducible refine Kd.C_drewN ?_ _) | (with_reducible refine Kd.C_drew ?_))); (case side8 => exact HC0_3.out); (case side9 => repeat (first | exact (Kd.C_below HR0_4.out (by repeat (first | (with_reducible first | exact HB.out | apply below_alloc | apply pw_below_drewN | apply below_drew1 | refine below_set ?_ GE270.out) | exact HB.out))) | (with_reducible refine Kd.C_alloc ?_ _) | (with_reducible refine Kd.C_drewN ?_ _) | (with_reducible refine Kd.C_drew ?_))); (case side10 => exact HC0_4.out); (case side11 => repeat (first | exact (Kd.C_below HR0_5.out (by repeat (first | (with_reducible first | exact HB.out | apply below_alloc | apply pw_below_drewN | apply below_drew1 | refine below_set ?_ GE270.out) | exact HB.out))) | (with_reducible refine Kd.C_alloc ?_ _) | (with_reducible refine Kd.C_drewN ?_ _) | (with_reducible refine Kd.C_drew ?_))); (case side12 => exact HC0_5.out); (case side13 => repeat (first | exact (Kd.C_below HR2.out (by repeat (first | (with_reducible first | exact HB.out | apply below_alloc | apply pw_below_drewN | apply below_drew1 | refine below_set ?_ GE270.out) | exact HB.out))) | (with_reducible refine Kd.C_alloc ?_ _) | (with_reducible refine Kd.C_drewN ?_ _) | (with_reducible refine Kd.C_drew ?_))); (case side14 => exact HC2.out); rintro e w18 ⟨v280, rfl, ho0, hb⟩; refine ⟨_, rfl, ?_⟩; have n0_ := Aside0.mk (Kd.R_lower ho0 (below_size (by repeat (first | (with_reducible first | exact HB.out | apply below_alloc | apply pw_below_drewN | apply below_drew1 | refine below_set ?_ GE270.out) | exact HB.out)))); have n1_ := Aside0.mk (blk_below (g := gb270) (o := .cells #[.slice A0_0 l0_0.length c0_0, .slice A0_1 l0_1.length c0_1, .slice A0_2 l0_2.length c0_2, .slice A0_3 l0_3.length c0_3, .slice A0_4 l0_4.length c0_4, .slice A0_5 l0_5.length c0_5] 38 (0, 0)) (by (with_reducible repeat (first | refine blk_drewN ?_ _ | refine blk_drew ?_ | refine blk_alloc ?_ _)); exact BK270.out) hb); have n2_ := Aside0.mk (below_step (by repeat (first | (with_reducible first | exact HB.out | apply below_alloc | apply pw_below_drewN | apply below_drew1 | refine below_set ?_ GE270.out) | exact HB.out)) hb); clear BK270; clear HB; have HO281 := n0_; have BK270 := n1_; have HB := n2_; clear n0_ n1_ n2_; (try clear hb); (try clear hb2); (try clear hk); (try clear hi); (try clear ho0)))
     go_ret2
     exact ⟨_, by first | rfl | (simp [errW_none, errW_some] <;> rfl) | (simp [*, errW_none, errW_some] <;> rfl), by (with_reducible repeat (first | apply Kd.R_alloc | apply Kd.R_drewN | apply Kd.R_drew)); exact HO281.out, by repeat (first | (with_reducible first | exact HB.out | apply below_alloc | apply pw_below_drewN | apply below_drew1 | refine below_set ?_ GE270.out) | exact HB.out)⟩
    ·rw [if_neg c12] at H
     have c12b0 : ((l2.length : Int) == (l0_1.length : Int)) = false := beq_eq_false_iff_ne.mpr c12
     have c12b1 : ((l2.length : Int) != (l0_1.length : Int)) = true := bne_iff_ne.mpr c12
     have c12b2 : (l2.length == l0_1.length) = false := by first | simpa using c12 | (simp at c12 ⊢; omega)
     obtain ⟨y282, hy282⟩ : ∃ y_ : List Int, y_ = (([] : List Int)) := ⟨_, rfl⟩
     replace H : (some (y282, 5)) = some (r1, r2) := by first | (rw [hy282]; with_reducible exact H) | (have H2_ := (Option.bind_some _ _).symm.trans H; rw [hy282]; with_reducible exact H2_) | (have H2_ := (Option.bind_some _ _).symm.trans H; with_reducible exact H2_) | with_reducible exact H | (rw [hy282]; exact H) | exact H
     have Ny282 := Aside0.mk hy282
     clear hy282
     simp only [Option.some.injEq, Prod.mk.injEq] at H
     obtain ⟨rfl, rfl⟩ := H
     go_enter Try.func25, Try.ntmps25
     go_wp2_with (first | ((with_reducible refine gate_dst (N := 3) rfl ?_); (try (refine gate_guard (by rfl) ?_; dsimp only)); refine box_event ?hg (N := 3) ?hd (cs := #[.slice A0_0 l0_0.length c0_0, .slice A0_1 l0_1.length c0_1, .slice A0_2 l0_2.length c0_2, .slice A0_3 l0_3.length c0_3, .slice A0_4 l0_4.length c0_4, .slice A0_5 l0_5.length c0_5]) (t := 38) ?hr ?_; (case hd => rfl); (case hg => rfl); (case hr => first | (go_simp; done) | (go_simp; rfl)); intro gb270 hg w19 hbox hb; have n0_ := Aside0.mk (below_step (by repeat (first | (with_reducible first | exact HB.out | apply below_alloc | apply pw_below_drewN | apply below_drew1) | exact HB.out)) hb); have n1_ := Aside0.mk (hbox); have n2_ := Aside0.mk ((by rw [hg]; exact (below_size (by repeat (first | (with_reducible first | exact HB.out | apply below_alloc | apply pw_below_drewN | apply below_drew1) | exact HB.out))) : w.heap.size ≤ gb270)); have n3_ := Aside0.mk ((by rw [hg]; exact (below_size (by repeat (first | (with_reducible first | exact HB.out | apply below_alloc | apply pw_below_drewN | apply below_drew1) | exact HB.out))) : w.heap.size ≤ gb270)); clear HB; have HB := n0_; have BK270 := n1_; have GW270 := n2_; have GE270 := n3_; clear n0_ n1_ n2_ n3_; clear hb hbox hg; have hcz20_0 : w19.cell? ⟨gb270, 0, none⟩ = some (.slice A0_0 l0_0.length c0_0) := (blk_cell BK270.out 0).trans rfl; have hcz20_1 : w19.cell? ⟨gb270, 1, none⟩ = some (.slice A0_1 l0_1.length c0_1) := (blk_cell BK270.out 1).trans rfl; have hcz20_2 : w19.cell? ⟨gb270, 2, none⟩ = some (.slice A0_2 l0_2.length c0_2) := (blk_cell BK270.out 2).trans rfl; have hcz20_3 : w19.cell? ⟨gb270, 3, none⟩ = some (.slice A0_3 l0_3.length c0_3) := (blk_cell BK270.out 3).trans rfl; have hcz20_4 : w19.cell? ⟨gb270, 4, none⟩ = some (.slice A0_4 l0_4.length c0_4) := (blk_cell BK270.out 4).trans rfl; have hcz20_5 : w19.cell? ⟨gb270, 5, none⟩ = some (.slice A0_5 l0_5.length c0_5) := (blk_cell BK270.out 5).trans rfl; have hfz20_0 := blk_frozen BK270.out 0; have hfz20_1 := blk_frozen BK270.out 1; have hfz20_2 := blk_frozen BK270.out 2; have hfz20_3 := blk_frozen BK270.out 3; have hfz20_4 := blk_frozen BK270.out 4; have hfz20_5 := blk_frozen BK270.out 5) | ((with_reducible refine gate_callee (f := 23) rfl ?_); refine goesL_ (some 13) rfl rfl Try.func23 (by kernel_rfl) rfl #[.agg #[.slice A0_0 l0_0.length c0_0, .slice A0_1 l0_1.length c0_1, .slice A0_2 l0_2.length c0_2, .slice A0_3 l0_3.length c0_3, .slice A0_4 l0_4.length c0_4, .slice A0_5 l0_5.length c0_5]] rfl (by (try simp only [List.map_toArray, List.map_cons, List.map_nil]); first | done | rfl | (simp only [List.length_drop, List.length_take]; rfl)) ?_; (with_reducible refine (spec_NetOK.calls k _ _ l0_0 _ _ l0_1 _ _ l0_2 _ _ l0_3 _ _ l0_4 _ _ l0_5 true _ ?side1 ?side2 ?side3 ?side4 ?side5 ?side6 ?side7 ?side8 ?side9 ?side10 ?side11 ?side12 A8.out).mono ?_); (case side1 => repeat (first | exact (Kd.C_below HR0_0.out HB.out) | (with_reducible refine Kd.C_alloc ?_ _) | (with_reducible refine Kd.C_drewN ?_ _) | (with_reducible refine Kd.C_drew ?_))); (case side2 => exact HC0_0.out); (case side3 => repeat (first | exact (Kd.C_below HR0_1.out HB.out) | (with_reducible refine Kd.C_alloc ?_ _) | (with_reducible refine Kd.C_drewN ?_ _) | (with_reducible refine Kd.C_drew ?_))); (case side4 => exact HC0_1.out); (case side5 => repeat (first | exact (Kd.C_below HR0_2.out HB.out) | (with_reducible refine Kd.C_alloc ?_ _) | (with_reducible refine Kd.C_drewN ?_ _) | (with_reducible refine Kd.C_drew ?_))); (case side6 => exact HC0_2.out); (case side7 => repeat (first | exact (Kd.C_below HR0_3.out HB.out) | (with_reducible refine Kd.C_alloc ?_ _) | (with_reducible refine Kd.C_drewN ?_ _) | (with_reducible refine Kd.C_drew ?_))); (case side8 => exact HC0_3.out); (case side9 => repeat (first | exact (Kd.C_below HR0_4.out HB.out) | (with_reducible refine Kd.C_alloc ?_ _) | (with_reducible refine Kd.C_drewN ?_ _) | (with_reducible refine Kd.C_drew ?_))); (case side10 => exact HC0_4.out); (case side11 => repeat (first | exact (Kd.C_below HR0_5.out HB.out) | (with_reducible refine Kd.C_alloc ?_ _) | (with_reducible refine Kd.C_drewN ?_ _) | (with_reducible refine Kd.C_drew ?_))); (case side12 => exact HC0_5.out); rintro e w21 ⟨rfl, hb⟩; refine ⟨_, rfl, ?_⟩; have n0_ := Aside0.mk (blk_below (g := gb270) (o := .cells #[.slice A0_0 l0_0.length c0_0, .slice A0_1 l0_1.length c0_1, .slice A0_2 l0_2.length c0_2, .slice A0_3 l0_3.length c0_3, .slice A0_4 l0_4.length c0_4, .slice A0_5 l0_5.length c0_5] 38 (0, 0)) (by (with_reducible repeat (first | refine blk_drewN ?_ _ | refine blk_drew ?_ | refine blk_alloc ?_ _)); exact BK270.out) hb); have n1_ := Aside0.mk (below_step (by repeat (first | (with_reducible first | exact HB.out | apply below_alloc | apply pw_below_drewN | apply below_drew1 | refine below_set ?_ GE270.out) | exact HB.out)) hb); clear BK270; clear HB; have BK270 := n0_; have HB := n1_; clear n0_ n1_; (try clear hb); (try clear hb2); (try clear hk); (try clear hi); have hcz22_0 : w21.cell? ⟨gb270, 0, none⟩ = some (.slice A0_0 l0_0.length c0_0) := (blk_cell BK270.out 0).trans rfl; have hcz22_1 : w21.cell? ⟨gb270, 1, none⟩ = some (.slice A0_1 l0_1.length c0_1) := (blk_cell BK270.out 1).trans rfl; have hcz22_2 : w21.cell? ⟨gb270, 2, none⟩ = some (.slice A0_2 l0_2.length c0_2) := (blk_cell BK270.out 2).trans rfl; have hcz22_3 : w21.cell? ⟨gb270, 3, none⟩ = some (.slice A0_3 l0_3.length c0_3) := (blk_cell BK270.out 3).trans rfl; have hcz22_4 : w21.cell? ⟨gb270, 4, none⟩ = some (.slice A0_4 l0_4.length c0_4) := (blk_cell BK270.out 4).trans rfl; have hcz22_5 : w21.cell? ⟨gb270, 5, none⟩ = some (.slice A0_5 l0_5.length c0_5) := (blk_cell BK270.out 5).trans rfl; have hfz22_0 := blk_frozen BK270.out 0; have hfz22_1 := blk_frozen BK270.out 1; have hfz22_2 := blk_frozen BK270.out 2; have hfz22_3 := blk_frozen BK270.out 3; have hfz22_4 := blk_frozen BK270.out 4; have hfz22_5 := blk_frozen BK270.out 5) | ((with_reducible refine gate_callee (f := 40) rfl ?_); refine goesL_ (some 21) rfl rfl Try.func40 (by kernel_rfl) rfl #[.int .i64 a1, .int .i64 0, .int .i64 (wrap64 ((l0_0.length : Int) - 1))] rfl (by (try simp only [List.map_toArray, List.map_cons, List.map_nil]); first | done | rfl | (simp only [List.length_drop, List.length_take]; rfl)) ?_; (with_reducible refine (spec_l01In.calls a1 0 (wrap64 ((l0_0.length : Int) - 1)) true _ A10.out).mono ?_); rintro e w' ⟨rfl, ⟨nd, rfl⟩⟩; refine ⟨_, rfl, ?_⟩) | ((with_reducible refine gate_dst (N := 31) rfl ?_); (try (refine gate_guard (by rfl) ?_; dsimp only)); refine Kd.R_lit (Kd.int .i64) _ 3 ?hg (N := 31) ?hd (xs := ([] : List Int)) (inner := []) (ok := fun _ => True) (okp := fun _ => True) ?hr ?hp (fun _ hk => hk) trivial (Below.refl _ _) (Nat.le_refl _) (by simp) ?_; (case hd => rfl); (case hg => rfl); (case hr => first | (go_simp; done) | (go_simp; rfl)); (case hp => exact (Reps.none _ _)); intro v283 w23 ho24 hb hg_ hnew_; clear hg_ hnew_; (first | rw [← Ny282.out] at ho24 | (simp only [Int.reduceToNat] at ho24; rw [← Ny282.out] at ho24)); have n0_ := Aside0.mk (Kd.R_lower ho24 (below_size (by repeat (first | (with_reducible first | exact HB.out | apply below_alloc | apply pw_below_drewN | apply below_drew1 | refine below_set ?_ GE270.out) | exact HB.out)))); have n1_ := Aside0.mk (blk_below (g := gb270) (o := .cells #[.slice A0_0 l0_0.length c0_0, .slice A0_1 l0_1.length c0_1, .slice A0_2 l0_2.length c0_2, .slice A0_3 l0_3.length c0_3, .slice A0_4 l0_4.length c0_4, .slice A0_5 l0_5.length c0_5] 38 (0, 0)) (by (with_reducible repeat (first | refine blk_drewN ?_ _ | refine blk_drew ?_ | refine blk_alloc ?_ _)); exact BK270.out) hb); have n2_ := Aside0.mk (below_step (by repeat (first | (with_reducible first | exact HB.out | apply below_alloc | apply pw_below_drewN | apply below_drew1 | refine below_set ?_ GE270.out) | exact HB.out)) hb); clear BK270; clear HB; have HO284 := n0_; have BK270 := n1_; have HB := n2_; clear n0_ n1_ n2_; clear hb ho24))
     go_ret2
     exact ⟨_, by first | rfl | (simp [errW_none, errW_some] <;> rfl) | (simp [*, errW_none, errW_some] <;> rfl), by (with_reducible repeat (first | apply Kd.R_alloc | apply Kd.R_drewN | apply Kd.R_drew)); exact HO284.out, by repeat (first | (with_reducible first | exact HB.out | apply below_alloc | apply pw_below_drewN | apply below_drew1 | refine below_set ?_ GE270.out) | exact HB.out)⟩
   ·replace c11 := Bool.eq_false_iff.mpr c11
    subst c11
    have H1 : (some ((([] : List Int)), 5)) = some (r1, r2) := by rw [if_neg (show ¬ (false = true) by decide)] at H; exact H
    clear H
    have H := H1
    clear H1
    obtain ⟨y285, hy285⟩ : ∃ y_ : List Int, y_ = (([] : List Int)) := ⟨_, rfl⟩
    replace H : (some (y285, 5)) = some (r1, r2) := by first | (rw [hy285]; with_reducible exact H) | (have H2_ := (Option.bind_some _ _).symm.trans H; rw [hy285]; with_reducible exact H2_) | (have H2_ := (Option.bind_some _ _).symm.trans H; with_reducible exact H2_) | with_reducible exact H | (rw [hy285]; exact H) | exact H
    have Ny285 := Aside0.mk hy285
    clear hy285
    simp only [Option.some.injEq, Prod.mk.injEq] at H
    obtain ⟨rfl, rfl⟩ := H
    go_enter Try.func25, Try.ntmps25
    go_wp2_with (first | ((with_reducible refine gate_dst (N := 3) rfl ?_); (try (refine gate_guard (by rfl) ?_; dsimp only)); refine box_event ?hg (N := 3) ?hd (cs := #[.slice A0_0 l0_0.length c0_0, .slice A0_1 l0_1.length c0_1, .slice A0_2 l0_2.length c0_2, .slice A0_3 l0_3.length c0_3, .slice A0_4 l0_4.length c0_4, .slice A0_5 l0_5.length c0_5]) (t := 38) ?hr ?_; (case hd => rfl); (case hg => rfl); (case hr => first | (go_simp; done) | (go_simp; rfl)); intro gb270 hg w25 hbox hb; have n0_ := Aside0.mk (below_step (by repeat (first | (with_reducible first | exact HB.out | apply below_alloc | apply pw_below_drewN | apply below_drew1) | exact HB.out)) hb); have n1_ := Aside0.mk (hbox); have n2_ := Aside0.mk ((by rw [hg]; exact (below_size (by repeat (first | (with_reducible first | exact HB.out | apply below_alloc | apply pw_below_drewN | apply below_drew1) | exact HB.out))) : w.heap.size ≤ gb270)); have n3_ := Aside0.mk ((by rw [hg]; exact (below_size (by repeat (first | (with_reducible first | exact HB.out | apply below_alloc | apply pw_below_drewN | apply below_drew1) | exact HB.out))) : w.heap.size ≤ gb270)); clear HB; have HB := n0_; have BK270 := n1_; have GW270 := n2_; have GE270 := n3_; clear n0_ n1_ n2_ n3_; clear hb hbox hg; have hcz26_0 : w25.cell? ⟨gb270, 0, none⟩ = some (.slice A0_0 l0_0.length c0_0) := (blk_cell BK270.out 0).trans rfl; have hcz26_1 : w25.cell? ⟨gb270, 1, none⟩ = some (.slice A0_1 l0_1.length c0_1) := (blk_cell BK270.out 1).trans rfl; have hcz26_2 : w25.cell? ⟨gb270, 2, none⟩ = some (.slice A0_2 l0_2.length c0_2) := (blk_cell BK270.out 2).trans rfl; have hcz26_3 : w25.cell? ⟨gb270, 3, none⟩ = some (.slice A0_3 l0_3.length c0_3) := (blk_cell BK270.out 3).trans rfl; have hcz26_4 : w25.cell? ⟨gb270, 4, none⟩ = some (.slice A0_4 l0_4.length c0_4) := (blk_cell BK270.out 4).trans rfl; have hcz26_5 : w25.cell? ⟨gb270, 5, none⟩ = some (.slice A0_5 l0_5.length c0_5) := (blk_cell BK270.out 5).trans rfl; have hfz26_0 := blk_frozen BK270.out 0; have hfz26_1 := blk_frozen BK270.out 1; have hfz26_2 := blk_frozen BK270.out 2; have hfz26_3 := blk_frozen BK270.out 3; have hfz26_4 := blk_frozen BK270.out 4; have hfz26_5 := blk_frozen BK270.out 5) | ((with_reducible refine gate_callee (f := 23) rfl ?_); refine goesL_ (some 13) rfl rfl Try.func23 (by kernel_rfl) rfl #[.agg #[.slice A0_0 l0_0.length c0_0, .slice A0_1 l0_1.length c0_1, .slice A0_2 l0_2.length c0_2, .slice A0_3 l0_3.length c0_3, .slice A0_4 l0_4.length c0_4, .slice A0_5 l0_5.length c0_5]] rfl (by (try simp only [List.map_toArray, List.map_cons, List.map_nil]); first | done | rfl | (simp only [List.length_drop, List.length_take]; rfl)) ?_; (with_reducible refine (spec_NetOK.calls k _ _ l0_0 _ _ l0_1 _ _ l0_2 _ _ l0_3 _ _ l0_4 _ _ l0_5 true _ ?side1 ?side2 ?side3 ?side4 ?side5 ?side6 ?side7 ?side8 ?side9 ?side10 ?side11 ?side12 A8.out).mono ?_); (case side1 => repeat (first | exact (Kd.C_below HR0_0.out HB.out) | (with_reducible refine Kd.C_alloc ?_ _) | (with_reducible refine Kd.C_drewN ?_ _) | (with_reducible refine Kd.C_drew ?_))); (case side2 => exact HC0_0.out); (case side3 => repeat (first | exact (Kd.C_below HR0_1.out HB.out) | (with_reducible refine Kd.C_alloc ?_ _) | (with_reducible refine Kd.C_drewN ?_ _) | (with_reducible refine Kd.C_drew ?_))); (case side4 => exact HC0_1.out); (case side5 => repeat (first | exact (Kd.C_below HR0_2.out HB.out) | (with_reducible refine Kd.C_alloc ?_ _) | (with_reducible refine Kd.C_drewN ?_ _) | (with_reducible refine Kd.C_drew ?_))); (case side6 => exact HC0_2.out); (case side7 => repeat (first | exact (Kd.C_below HR0_3.out HB.out) | (with_reducible refine Kd.C_alloc ?_ _) | (with_reducible refine Kd.C_drewN ?_ _) | (with_reducible refine Kd.C_drew ?_))); (case side8 => exact HC0_3.out); (case side9 => repeat (first | exact (Kd.C_below HR0_4.out HB.out) | (with_reducible refine Kd.C_alloc ?_ _) | (with_reducible refine Kd.C_drewN ?_ _) | (with_reducible refine Kd.C_drew ?_))); (case side10 => exact HC0_4.out); (case side11 => repeat (first | exact (Kd.C_below HR0_5.out HB.out) | (with_reducible refine Kd.C_alloc ?_ _) | (with_reducible refine Kd.C_drewN ?_ _) | (with_reducible refine Kd.C_drew ?_))); (case side12 => exact HC0_5.out); rintro e w27 ⟨rfl, hb⟩; refine ⟨_, rfl, ?_⟩; have n0_ := Aside0.mk (blk_below (g := gb270) (o := .cells #[.slice A0_0 l0_0.length c0_0, .slice A0_1 l0_1.length c0_1, .slice A0_2 l0_2.length c0_2, .slice A0_3 l0_3.length c0_3, .slice A0_4 l0_4.length c0_4, .slice A0_5 l0_5.length c0_5] 38 (0, 0)) (by (with_reducible repeat (first | refine blk_drewN ?_ _ | refine blk_drew ?_ | refine blk_alloc ?_ _)); exact BK270.out) hb); have n1_ := Aside0.mk (below_step (by repeat (first | (with_reducible first | exact HB.out | apply below_alloc | apply pw_below_drewN | apply below_drew1 | refine below_set ?_ GE270.out) | exact HB.out)) hb); clear BK270; clear HB; have BK270 := n0_; have HB := n1_; clear n0_ n1_; (try clear hb); (try clear hb2); (try clear hk); (try clear hi); have hcz28_0 : w27.cell? ⟨gb270, 0, none⟩ = some (.slice A0_0 l0_0.length c0_0) := (blk_cell BK270.out 0).trans rfl; have hcz28_1 : w27.cell? ⟨gb270, 1, none⟩ = some (.slice A0_1 l0_1.length c0_1) := (blk_cell BK270.out 1).trans rfl; have hcz28_2 : w27.cell? ⟨gb270, 2, none⟩ = some (.slice A0_2 l0_2.length c0_2) := (blk_cell BK270.out 2).trans rfl; have hcz28_3 : w27.cell? ⟨gb270, 3, none⟩ = some (.slice A0_3 l0_3.length c0_3) := (blk_cell BK270.out 3).trans rfl; have hcz28_4 : w27.cell? ⟨gb270, 4, none⟩ = some (.slice A0_4 l0_4.length c0_4) := (blk_cell BK270.out 4).trans rfl; have hcz28_5 : w27.cell? ⟨gb270, 5, none⟩ = some (.slice A0_5 l0_5.length c0_5) := (blk_cell BK270.out 5).trans rfl; have hfz28_0 := blk_frozen BK270.out 0; have hfz28_1 := blk_frozen BK270.out 1; have hfz28_2 := blk_frozen BK270.out 2; have hfz28_3 := blk_frozen BK270.out 3; have hfz28_4 := blk_frozen BK270.out 4; have hfz28_5 := blk_frozen BK270.out 5) | ((with_reducible refine gate_callee (f := 40) rfl ?_); refine goesL_ (some 21) rfl rfl Try.func40 (by kernel_rfl) rfl #[.int .i64 a1, .int .i64 0, .int .i64 (wrap64 ((l0_0.length : Int) - 1))] rfl (by (try simp only [List.map_toArray, List.map_cons, List.map_nil]); first | done | rfl | (simp only [List.length_drop, List.length_take]; rfl)) ?_; (with_reducible refine (spec_l01In.calls a1 0 (wrap64 ((l0_0.length : Int) - 1)) false _ A10.out).mono ?_); rintro e w' ⟨rfl, ⟨nd, rfl⟩⟩; refine ⟨_, rfl, ?_⟩) | ((with_reducible refine gate_dst (N := 31) rfl ?_); (try (refine gate_guard (by rfl) ?_; dsimp only)); refine Kd.R_lit (Kd.int .i64) _ 3 ?hg (N := 31) ?hd (xs := ([] : List Int)) (inner := []) (ok := fun _ => True) (okp := fun _ => True) ?hr ?hp (fun _ hk => hk) trivial (Below.refl _ _) (Nat.le_refl _) (by simp) ?_; (case hd => rfl); (case hg => rfl); (case hr => first | (go_simp; done) | (go_simp; rfl)); (case hp => exact (Reps.none _ _)); intro v286 w29 ho30 hb hg_ hnew_; clear hg_ hnew_; (first | rw [← Ny285.out] at ho30 | (simp only [Int.reduceToNat] at ho30; rw [← Ny285.out] at ho30)); have n0_ := Aside0.mk (Kd.R_lower ho30 (below_size (by repeat (first | (with_reducible first | exact HB.out | apply below_alloc | apply pw_below_drewN | apply below_drew1 | refine below_set ?_ GE270.out) | exact HB.out)))); have n1_ := Aside0.mk (blk_below (g := gb270) (o := .cells #[.slice A0_0 l0_0.length c0_0, .slice A0_1 l0_1.length c0_1, .slice A0_2 l0_2.length c0_2, .slice A0_3 l0_3.length c0_3, .slice A0_4 l0_4.length c0_4, .slice A0_5 l0_5.length c0_5] 38 (0, 0)) (by (with_reducible repeat (first | refine blk_drewN ?_ _ | refine blk_drew ?_ | refine blk_alloc ?_ _)); exact BK270.out) hb); have n2_ := Aside0.mk (below_step (by repeat (first | (with_reducible first | exact HB.out | apply below_alloc | apply pw_below_drewN | apply below_drew1 | refine below_set ?_ GE270.out) | exact HB.out)) hb); clear BK270; clear HB; have HO287 := n0_; have BK270 := n1_; have HB := n2_; clear n0_ n1_ n2_; clear hb ho30))
    go_ret2
    exact ⟨_, by first | rfl | (simp [errW_none, errW_some] <;> rfl) | (simp [*, errW_none, errW_some] <;> rfl), by (with_reducible repeat (first | apply Kd.R_alloc | apply Kd.R_drewN | apply Kd.R_drew)); exact HO287.out, by repeat (first | (with_reducible first | exact HB.out | apply below_alloc | apply pw_below_drewN | apply below_drew1 | refine below_set ?_ GE270.out) | exact HB.out)⟩
  ·replace c9 := Bool.eq_false_iff.mpr c9
   subst c9
   have H1 : (some ((([] : List Int)), 1)) = some (r1, r2) := by rw [if_neg (show ¬ (false = true) by decide)] at H; exact H
   clear H
   have H := H1
   clear H1
   obtain ⟨y275, hy275⟩ : ∃ y_ : List Int, y_ = (([] : List Int)) := ⟨_, rfl⟩
   replace H : (some (y275, 1)) = some (r1, r2) := by first | (rw [hy275]; with_reducible exact H) | (have H2_ := (Option.bind_some _ _).symm.trans H; rw [hy275]; with_reducible exact H2_) | (have H2_ := (Option.bind_some _ _).symm.trans H; with_reducible exact H2_) | with_reducible exact H | (rw [hy275]; exact H) | exact H
   have Ny275 := Aside0.mk hy275
   clear hy275
   simp only [Option.some.injEq, Prod.mk.injEq] at H
   obtain ⟨rfl, rfl⟩ := H
   go_enter Try.func25, Try.ntmps25
   go_wp2_with (first | ((with_reducible refine gate_dst (N := 3) rfl ?_); (try (refine gate_guard (by rfl) ?_; dsimp only)); refine box_event ?hg (N := 3) ?hd (cs := #[.slice A0_0 l0_0.length c0_0, .slice A0_1 l0_1.length c0_1, .slice A0_2 l0_2.length c0_2, .slice A0_3 l0_3.length c0_3, .slice A0_4 l0_4.length c0_4, .slice A0_5 l0_5.length c0_5]) (t := 38) ?hr ?_; (case hd => rfl); (case hg => rfl); (case hr => first | (go_simp; done) | (go_simp; rfl)); intro gb270 hg w31 hbox hb; have n0_ := Aside0.mk (below_step (by repeat (first | (with_reducible first | exact HB.out | apply below_alloc | apply pw_below_drewN | apply below_drew1) | exact HB.out)) hb); have n1_ := Aside0.mk (hbox); have n2_ := Aside0.mk ((by rw [hg]; exact (below_size (by repeat (first | (with_reducible first | exact HB.out | apply below_alloc | apply pw_below_drewN | apply below_drew1) | exact HB.out))) : w.heap.size ≤ gb270)); have n3_ := Aside0.mk ((by rw [hg]; exact (below_size (by repeat (first | (with_reducible first | exact HB.out | apply below_alloc | apply pw_below_drewN | apply below_drew1) | exact HB.out))) : w.heap.size ≤ gb270)); clear HB; have HB := n0_; have BK270 := n1_; have GW270 := n2_; have GE270 := n3_; clear n0_ n1_ n2_ n3_; clear hb hbox hg; have hcz32_0 : w31.cell? ⟨gb270, 0, none⟩ = some (.slice A0_0 l0_0.length c0_0) := (blk_cell BK270.out 0).trans rfl; have hcz32_1 : w31.cell? ⟨gb270, 1, none⟩ = some (.slice A0_1 l0_1.length c0_1) := (blk_cell BK270.out 1).trans rfl; have hcz32_2 : w31.cell? ⟨gb270, 2, none⟩ = some (.slice A0_2 l0_2.length c0_2) := (blk_cell BK270.out 2).trans rfl; have hcz32_3 : w31.cell? ⟨gb270, 3, none⟩ = some (.slice A0_3 l0_3.length c0_3) := (blk_cell BK270.out 3).trans rfl; have hcz32_4 : w31.cell? ⟨gb270, 4, none⟩ = some (.slice A0_4 l0_4.length c0_4) := (blk_cell BK270.out 4).trans rfl; have hcz32_5 : w31.cell? ⟨gb270, 5, none⟩ = some (.slice A0_5 l0_5.length c0_5) := (blk_cell BK270.out 5).trans rfl; have hfz32_0 := blk_frozen BK270.out 0; have hfz32_1 := blk_frozen BK270.out 1; have hfz32_2 := blk_frozen BK270.out 2; have hfz32_3 := blk_frozen BK270.out 3; have hfz32_4 := blk_frozen BK270.out 4; have hfz32_5 := blk_frozen BK270.out 5) | ((with_reducible refine gate_callee (f := 23) rfl ?_); refine goesL_ (some 13) rfl rfl Try.func23 (by kernel_rfl) rfl #[.agg #[.slice A0_0 l0_0.length c0_0, .slice A0_1 l0_1.length c0_1, .slice A0_2 l0_2.length c0_2, .slice A0_3 l0_3.length c0_3, .slice A0_4 l0_4.length c0_4, .slice A0_5 l0_5.length c0_5]] rfl (by (try simp only [List.map_toArray, List.map_cons, List.map_nil]); first | done | rfl | (simp only [List.length_drop, List.length_take]; rfl)) ?_; (with_reducible refine (spec_NetOK.calls k _ _ l0_0 _ _ l0_1 _ _ l0_2 _ _ l0_3 _ _ l0_4 _ _ l0_5 false _ ?side1 ?side2 ?side3 ?side4 ?side5 ?side6 ?side7 ?side8 ?side9 ?side10 ?side11 ?side12 A8.out).mono ?_); (case side1 => repeat (first | exact (Kd.C_below HR0_0.out HB.out) | (with_reducible refine Kd.C_alloc ?_ _) | (with_reducible refine Kd.C_drewN ?_ _) | (with_reducible refine Kd.C_drew ?_))); (case side2 => exact HC0_0.out); (case side3 => repeat (first | exact (Kd.C_below HR0_1.out HB.out) | (with_reducible refine Kd.C_alloc ?_ _) | (with_reducible refine Kd.C_drewN ?_ _) | (with_reducible refine Kd.C_drew ?_))); (case side4 => exact HC0_1.out); (case side5 => repeat (first | exact (Kd.C_below HR0_2.out HB.out) | (with_reducible refine Kd.C_alloc ?_ _) | (with_reducible refine Kd.C_drewN ?_ _) | (with_reducible refine Kd.C_drew ?_))); (case side6 => exact HC0_2.out); (case side7 => repeat (first | exact (Kd.C_below HR0_3.out HB.out) | (with_reducible refine Kd.C_alloc ?_ _) | (with_reducible refine Kd.C_drewN ?_ _) | (with_reducible refine Kd.C_drew ?_))); (case side8 => exact HC0_3.out); (case side9 => repeat (first | exact (Kd.C_below HR0_4.out HB.out) | (with_reducible refine Kd.C_alloc ?_ _) | (with_reducible refine Kd.C_drewN ?_ _) | (with_reducible refine Kd.C_drew ?_))); (case side10 => exact HC0_4.out); (case side11 => repeat (first | exact (Kd.C_below HR0_5.out HB.out) | (with_reducible refine Kd.C_alloc ?_ _) | (with_reducible refine Kd.C_drewN ?_ _) | (with_reducible refine Kd.C_drew ?_))); (case side12 => exact HC0_5.out); rintro e w33 ⟨rfl, hb⟩; refine ⟨_, rfl, ?_⟩; have n0_ := Aside0.mk (blk_below (g := gb270) (o := .cells #[.slice A0_0 l0_0.length c0_0, .slice A0_1 l0_1.length c0_1, .slice A0_2 l0_2.length c0_2, .slice A0_3 l0_3.length c0_3, .slice A0_4 l0_4.length c0_4, .slice A0_5 l0_5.length c0_5] 38 (0, 0)) (by (with_reducible repeat (first | refine blk_drewN ?_ _ | refine blk_drew ?_ | refine blk_alloc ?_ _)); exact BK270.out) hb); have n1_ := Aside0.mk (below_step (by repeat (first | (with_reducible first | exact HB.out | apply below_alloc | apply pw_below_drewN | apply below_drew1 | refine below_set ?_ GE270.out) | exact HB.out)) hb); clear BK270; clear HB; have BK270 := n0_; have HB := n1_; clear n0_ n1_; (try clear hb); (try clear hb2); (try clear hk); (try clear hi)) | ((with_reducible refine gate_dst (N := 15) rfl ?_); (try (refine gate_guard (by rfl) ?_; dsimp only)); refine Kd.R_lit (Kd.int .i64) _ 3 ?hg (N := 15) ?hd (xs := ([] : List Int)) (inner := []) (ok := fun _ => True) (okp := fun _ => True) ?hr ?hp (fun _ hk => hk) trivial (Below.refl _ _) (Nat.le_refl _) (by simp) ?_; (case hd => rfl); (case hg => rfl); (case hr => first | (go_simp; done) | (go_simp; rfl)); (case hp => exact (Reps.none _ _)); intro v276 w34 ho35 hb hg_ hnew_; clear hg_ hnew_; (first | rw [← Ny275.out] at ho35 | (simp only [Int.reduceToNat] at ho35; rw [← Ny275.out] at ho35)); have n0_ := Aside0.mk (Kd.R_lower ho35 (below_size (by repeat (first | (with_reducible first | exact HB.out | apply below_alloc | apply pw_below_drewN | apply below_drew1 | refine below_set ?_ GE270.out) | exact HB.out)))); have n1_ := Aside0.mk (blk_below (g := gb270) (o := .cells #[.slice A0_0 l0_0.length c0_0, .slice A0_1 l0_1.length c0_1, .slice A0_2 l0_2.length c0_2, .slice A0_3 l0_3.length c0_3, .slice A0_4 l0_4.length c0_4, .slice A0_5 l0_5.length c0_5] 38 (0, 0)) (by (with_reducible repeat (first | refine blk_drewN ?_ _ | refine blk_drew ?_ | refine blk_alloc ?_ _)); exact BK270.out) hb); have n2_ := Aside0.mk (below_step (by repeat (first | (with_reducible first | exact HB.out | apply below_alloc | apply pw_below_drewN | apply below_drew1 | refine below_set ?_ GE270.out) | exact HB.out)) hb); clear BK270; clear HB; have HO277 := n0_; have BK270 := n1_; have HB := n2_; clear n0_ n1_ n2_; clear hb ho35))
   go_ret2
   exact ⟨_, by first | rfl | (simp [errW_none, errW_some] <;> rfl) | (simp [*, errW_none, errW_some] <;> rfl), by (with_reducible repeat (first | apply Kd.R_alloc | apply Kd.R_drewN | apply Kd.R_drew)); exact HO277.out, by repeat (first | (with_reducible first | exact HB.out | apply below_alloc | apply pw_below_drewN | apply below_drew1 | refine below_set ?_ GE270.out) | exact HB.out)⟩
def impl_neighbours.l0 : Nat → Int → List Bool → List Int → Int → Int → List ByteArray → List (S92) → List Int → List Int → List (S95) → List (S97) → Option (List Int)
 | 0, _, _, _, _, _, _, _, _, _, _, _ => none
 | k + 1, x1, x2, x7, x12, x13, x289000, x289001, x289002, x289003, x289004, x289005 => if x13 < x12 then ((impl_linkOf.f x289000 x289001 x289002 x289003 x289004 x289005 x1 x13).bind fun t289 => (if t289 ≥ 0 then (if 0 ≤ t289 then (if t289 < (x2.length : Int) then (if rdOf false x2 t289 = true then (impl_neighbours.l0 k x1 x2 x7 x12 (wrap64 (x13 + 1)) x289000 x289001 x289002 x289003 x289004 x289005) else (if x7.length < 17592186044416 then (impl_neighbours.l0 k x1 x2 (x7 ++ [x13]) x12 (wrap64 (x13 + 1)) x289000 x289001 x289002 x289003 x289004 x289005) else (none))) else (none)) else (none)) else (impl_neighbours.l0 k x1 x2 x7 x12 (wrap64 (x13 + 1)) x289000 x289001 x289002 x289003 x289004 x289005))) else (some x7)
def impl_neighbours.f (k : Nat) (l0_0 : List ByteArray) (l0_1 : List (S92)) (l0_2 : List Int) (l0_3 : List Int) (l0_4 : List (S95)) (l0_5 : List (S97)) (a1 : Int) (l2 : List Bool) : Option (List Int) := impl_neighbours.l0 k a1 l2 ([] : List Int) (l0_0.length : Int) 0 l0_0 l0_1 l0_2 l0_3 l0_4 l0_5
set_option maxHeartbeats 8000000 in
set_option maxRecDepth 100000 in
theorem impl_neighbours.calls (k : Nat) (A0_0 : Option Addr) (c0_0 : Nat) (l0_0 : List ByteArray) (A0_1 : Option Addr) (c0_1 : Nat) (l0_1 : List (S92)) (A0_2 : Option Addr) (c0_2 : Nat) (l0_2 : List Int) (A0_3 : Option Addr) (c0_3 : Nat) (l0_3 : List Int) (A0_4 : Option Addr) (c0_4 : Nat) (l0_4 : List (S95)) (A0_5 : Option Addr) (c0_5 : Nat) (l0_5 : List (S97)) (a1 : Int) (A2 : Option Addr) (c2 : Nat) (l2 : List Bool) (r : List Int) (w : World) (hr0_0 : Kd.C Kd.string w A0_0 l0_0.length l0_0) (hc0_0 : l0_0.length ≤ c0_0) (hr0_1 : Kd.C k92 w A0_1 l0_1.length l0_1) (hc0_1 : l0_1.length ≤ c0_1) (hr0_2 : Kd.C (Kd.int .i64) w A0_2 l0_2.length l0_2) (hc0_2 : l0_2.length ≤ c0_2) (hr0_3 : Kd.C (Kd.int .i64) w A0_3 l0_3.length l0_3) (hc0_3 : l0_3.length ≤ c0_3) (hr0_4 : Kd.C k95 w A0_4 l0_4.length l0_4) (hc0_4 : l0_4.length ≤ c0_4) (hr0_5 : Kd.C k97 w A0_5 l0_5.length l0_5) (hc0_5 : l0_5.length ≤ c0_5) (hr2 : Kd.C Kd.bool w A2 l2.length l2) (hc2 : l2.length ≤ c2) (h : impl_neighbours.f k l0_0 l0_1 l0_2 l0_3 l0_4 l0_5 a1 l2 = some r) :
  Calls Try.prog 65 #[.agg #[.slice A0_0 l0_0.length c0_0, .slice A0_1 l0_1.length c0_1, .slice A0_2 l0_2.length c0_2, .slice A0_3 l0_3.length c0_3, .slice A0_4 l0_4.length c0_4, .slice A0_5 l0_5.length c0_5], .int .i64 a1, .slice A2 l2.length c2] w fun e w' => ∃ v0_ : Value, e = .returned (v0_) ∧ Kd.R (Kd.int .i64) 3 w' w.heap.size (fun _ => True) v0_ r ∧ Below w.heap.size w w' := by
 have hu38 := Try.underlying38
 have HR0_0 := Aside0.mk hr0_0
 have HC0_0 := Aside0.mk hc0_0
 clear hr0_0 hc0_0
 have HR0_1 := Aside0.mk hr0_1
 have HC0_1 := Aside0.mk hc0_1
 clear hr0_1 hc0_1
 have HR0_2 := Aside0.mk hr0_2
 have HC0_2 := Aside0.mk hc0_2
 clear hr0_2 hc0_2
 have HR0_3 := Aside0.mk hr0_3
 have HC0_3 := Aside0.mk hc0_3
 clear hr0_3 hc0_3
 have HR0_4 := Aside0.mk hr0_4
 have HC0_4 := Aside0.mk hc0_4
 clear hr0_4 hc0_4
 have HR0_5 := Aside0.mk hr0_5
 have HC0_5 := Aside0.mk hc0_5
 clear hr0_5 hc0_5
 have HR2 := Aside0.mk hr2
 have HC2 := Aside0.mk hc2
 clear hr2 hc2
 have HB := Aside0.mk (Below.refl w.heap.size w)
 have H : (impl_neighbours.l0 k a1 l2 ([] : List Int) (l0_0.length : Int) 0 l0_0 l0_1 l0_2 l0_3 l0_4 l0_5) = some r := h
 clear h
 have H' := Aside0.mk H
 clear H
 go_enter Try.func65, Try.ntmps65
 go_wp2_with (first | ((with_reducible refine gate_dst (N := 3) rfl ?_); refine box_event ?hg (N := 3) ?hd (cs := #[.slice A0_0 l0_0.length c0_0, .slice A0_1 l0_1.length c0_1, .slice A0_2 l0_2.length c0_2, .slice A0_3 l0_3.length c0_3, .slice A0_4 l0_4.length c0_4, .slice A0_5 l0_5.length c0_5]) (t := 38) ?hr ?_; (case hd => rfl); (case hg => rfl); (case hr => first | (go_simp; done) | (go_simp; rfl)); intro gb288 hg w4 hbox hb; have n0_ := Aside0.mk (below_step (by repeat (first | (with_reducible first | exact HB.out | apply below_alloc | apply pw_below_drewN | apply below_drew1) | exact HB.out)) hb); have n1_ := Aside0.mk (hbox); have n2_ := Aside0.mk ((by rw [hg]; exact (below_size (by repeat (first | (with_reducible first | exact HB.out | apply below_alloc | apply pw_below_drewN | apply below_drew1) | exact HB.out))) : w.heap.size ≤ gb288)); have n3_ := Aside0.mk ((by rw [hg]; exact (below_size (by repeat (first | (with_reducible first | exact HB.out | apply below_alloc | apply pw_below_drewN | apply below_drew1) | exact HB.out))) : w.heap.size ≤ gb288)); clear HB; have HB := n0_; have BK288 := n1_; have GW288 := n2_; have GE288 := n3_; clear n0_ n1_ n2_ n3_; clear hb hbox hg; have hcz5_0 : w4.cell? ⟨gb288, 0, none⟩ = some (.slice A0_0 l0_0.length c0_0) := (blk_cell BK288.out 0).trans rfl; have hcz5_1 : w4.cell? ⟨gb288, 1, none⟩ = some (.slice A0_1 l0_1.length c0_1) := (blk_cell BK288.out 1).trans rfl; have hcz5_2 : w4.cell? ⟨gb288, 2, none⟩ = some (.slice A0_2 l0_2.length c0_2) := (blk_cell BK288.out 2).trans rfl; have hcz5_3 : w4.cell? ⟨gb288, 3, none⟩ = some (.slice A0_3 l0_3.length c0_3) := (blk_cell BK288.out 3).trans rfl; have hcz5_4 : w4.cell? ⟨gb288, 4, none⟩ = some (.slice A0_4 l0_4.length c0_4) := (blk_cell BK288.out 4).trans rfl; have hcz5_5 : w4.cell? ⟨gb288, 5, none⟩ = some (.slice A0_5 l0_5.length c0_5) := (blk_cell BK288.out 5).trans rfl; have hfz5_0 := blk_frozen BK288.out 0; have hfz5_1 := blk_frozen BK288.out 1; have hfz5_2 := blk_frozen BK288.out 2; have hfz5_3 := blk_frozen BK288.out 3; have hfz5_4 := blk_frozen BK288.out 4; have hfz5_5 := blk_frozen BK288.out 5))
 go_loopg [7, 13] k (fun kq v7 v13 w' => ∃ (x7_1 : List Int) (x13_1 : Int), v13 = .int .i64 x13_1 ∧ Aside0 (impl_neighbours.l0 kq a1 l2 x7_1 (l0_0.length : Int) x13_1 l0_0 l0_1 l0_2 l0_3 l0_4 l0_5 = some r) ∧ Aside0 (kq ≤ k) ∧ Aside0 (Kd.R (Kd.int .i64) 3 w' w.heap.size (fun _ => True) v7 x7_1) ∧ Aside0 (w'.heap[gb288]? = some (.cells #[(.slice A0_0 l0_0.length c0_0), (.slice A0_1 l0_1.length c0_1), (.slice A0_2 l0_2.length c0_2), (.slice A0_3 l0_3.length c0_3), (.slice A0_4 l0_4.length c0_4), (.slice A0_5 l0_5.length c0_5)] 38 (0, 0))) ∧ Aside0 (Below w.heap.size w w'))
 case atStart => exact ⟨(([] : List Int)), (0), (by first | rfl | (simp; done) | (simp [*]; done)), H', ⟨Nat.le_refl _⟩, ⟨by first | exact Kd.R_nil _ _ _ _ _ | exact Kd.N_nil _ _ _ _ _ | exact Kd.V_nil _ _ _ _ _ | exact Kd.Q_nil _ _ _ _ _ | exact Kd.S_nil _ _ _ _ _⟩, ⟨by (with_reducible repeat (first | refine blk_drewN ?_ _ | refine blk_drew ?_ | refine blk_alloc ?_ _)); exact BK288.out⟩, ⟨by repeat (first | (with_reducible first | exact HB.out | apply below_alloc | apply pw_below_drewN | apply below_drew1 | refine below_set ?_ GE288.out) | exact HB.out)⟩⟩
 case round =>
  clear H'
  try clear c2
  try clear p2
  try clear hcz5_0
  try clear hcz5_1
  try clear hcz5_2
  try clear hcz5_3
  try clear hcz5_4
  try clear hcz5_5
  try clear hfz5_0
  try clear hfz5_1
  try clear hfz5_2
  try clear hfz5_3
  try clear hfz5_4
  try clear hfz5_5
  obtain ⟨x7_1, x13_1, rfl, HA, HK1, HO_7, BK288, HB⟩ := hrel
  cases gk with
  | zero => exact absurd HA.out (by simp [impl_neighbours.l0])
  | succ k1 =>
   have H := HA.out
   clear HA
   simp only [impl_neighbours.l0] at H
   by_cases c6 : x13_1 < (l0_0.length : Int)
   ·rw [if_pos c6] at H
    have c6b0 : decide (x13_1 < (l0_0.length : Int)) = true := decide_eq_true c6
    clear c6
    replace H := Option.bind_eq_some_iff.mp H
    obtain ⟨t289, A70, H⟩ := H
    replace H : (if t289 ≥ 0 then (if 0 ≤ t289 then (if t289 < (l2.length : Int) then (if rdOf false l2 t289 = true then (impl_neighbours.l0 k1 a1 l2 x7_1 (l0_0.length : Int) (wrap64 (x13_1 + 1)) l0_0 l0_1 l0_2 l0_3 l0_4 l0_5) else (if x7_1.length < 17592186044416 then (impl_neighbours.l0 k1 a1 l2 (x7_1 ++ [x13_1]) (l0_0.length : Int) (wrap64 (x13_1 + 1)) l0_0 l0_1 l0_2 l0_3 l0_4 l0_5) else (none))) else (none)) else (none)) else (impl_neighbours.l0 k1 a1 l2 x7_1 (l0_0.length : Int) (wrap64 (x13_1 + 1)) l0_0 l0_1 l0_2 l0_3 l0_4 l0_5)) = some r := H
    have A7 := Aside0.mk A70
    clear A70
    by_cases c8 : t289 ≥ 0
    ·rw [if_pos c8] at H
     have c8b0 : decide (0 ≤ t289) = true := decide_eq_true c8
     clear c8
     by_cases c9 : 0 ≤ t289
     ·rw [if_pos c9] at H
      have c9b0 : decide (0 ≤ t289) = true := decide_eq_true c9
      clear c9
      by_cases c10 : t289 < (l2.length : Int)
      ·rw [if_pos c10] at H
       have c10b0 : decide (t289 < (l2.length : Int)) = true := decide_eq_true c10
       clear c10
       obtain ⟨bq11, hbq11⟩ : ∃ b_ : Bool, b_ = (rdOf false l2 t289) := ⟨_, rfl⟩
       replace H : (if bq11 = true then (impl_neighbours.l0 k1 a1 l2 x7_1 (l0_0.length : Int) (wrap64 (x13_1 + 1)) l0_0 l0_1 l0_2 l0_3 l0_4 l0_5) else (if x7_1.length < 17592186044416 then (impl_neighbours.l0 k1 a1 l2 (x7_1 ++ [x13_1]) (l0_0.length : Int) (wrap64 (x13_1 + 1)) l0_0 l0_1 l0_2 l0_3 l0_4 l0_5) else (none))) = some r := by rw [← hbq11] at H; exact H
       have Nbq11 := Aside0.mk hbq11
       clear hbq11
       by_cases c12 : bq11 = true
       ·subst c12
        have H1 : (impl_neighbours.l0 k1 a1 l2 x7_1 (l0_0.length : Int) (wrap64 (x13_1 + 1)) l0_0 l0_1 l0_2 l0_3 l0_4 l0_5) = some r := by rw [if_pos rfl] at H; exact H
        clear H
        have H := H1
        clear H1
        have H' := Aside0.mk H
        clear H
        have hcz13_0 : wr.cell? ⟨gb288, 0, none⟩ = some (.slice A0_0 l0_0.length c0_0) := (blk_cell BK288.out 0).trans rfl
        have hcz13_1 : wr.cell? ⟨gb288, 1, none⟩ = some (.slice A0_1 l0_1.length c0_1) := (blk_cell BK288.out 1).trans rfl
        have hcz13_2 : wr.cell? ⟨gb288, 2, none⟩ = some (.slice A0_2 l0_2.length c0_2) := (blk_cell BK288.out 2).trans rfl
        have hcz13_3 : wr.cell? ⟨gb288, 3, none⟩ = some (.slice A0_3 l0_3.length c0_3) := (blk_cell BK288.out 3).trans rfl
        have hcz13_4 : wr.cell? ⟨gb288, 4, none⟩ = some (.slice A0_4 l0_4.length c0_4) := (blk_cell BK288.out 4).trans rfl
        have hcz13_5 : wr.cell? ⟨gb288, 5, none⟩ = some (.slice A0_5 l0_5.length c0_5) := (blk_cell BK288.out 5).trans rfl
        have hfz13_0 := blk_frozen BK288.out 0
        have hfz13_1 := blk_frozen BK288.out 1
        have hfz13_2 := blk_frozen BK288.out 2
        have hfz13_3 := blk_frozen BK288.out 3
        have hfz13_4 := blk_frozen BK288.out 4
        have hfz13_5 := blk_frozen BK288.out 5
        go_wp2_with (first | ((with_reducible refine gate_callee (f := 89) rfl ?_); refine goesL_ (some 19) rfl rfl Try.func89 (by kernel_rfl) rfl #[.agg #[.slice A0_0 l0_0.length c0_0, .slice A0_1 l0_1.length c0_1, .slice A0_2 l0_2.length c0_2, .slice A0_3 l0_3.length c0_3, .slice A0_4 l0_4.length c0_4, .slice A0_5 l0_5.length c0_5], .int .i64 a1, .int .i64 x13_1] rfl (by (try simp only [List.map_toArray, List.map_cons, List.map_nil]); first | done | rfl | (simp only [List.length_drop, List.length_take]; rfl)) ?_; (with_reducible refine (impl_linkOf.calls _ _ l0_0 _ _ l0_1 _ _ l0_2 _ _ l0_3 _ _ l0_4 _ _ l0_5 a1 x13_1 t289 _ ?side1 ?side2 ?side3 ?side4 ?side5 ?side6 ?side7 ?side8 ?side9 ?side10 ?side11 ?side12 A7.out).mono ?_); (case side1 => repeat (first | exact (Kd.C_below HR0_0.out HB.out) | (with_reducible refine Kd.C_alloc ?_ _) | (with_reducible refine Kd.C_drewN ?_ _) | (with_reducible refine Kd.C_drew ?_))); (case side2 => exact HC0_0.out); (case side3 => repeat (first | exact (Kd.C_below HR0_1.out HB.out) | (with_reducible refine Kd.C_alloc ?_ _) | (with_reducible refine Kd.C_drewN ?_ _) | (with_reducible refine Kd.C_drew ?_))); (case side4 => exact HC0_1.out); (case side5 => repeat (first | exact (Kd.C_below HR0_2.out HB.out) | (with_reducible refine Kd.C_alloc ?_ _) | (with_reducible refine Kd.C_drewN ?_ _) | (with_reducible refine Kd.C_drew ?_))); (case side6 => exact HC0_2.out); (case side7 => repeat (first | exact (Kd.C_below HR0_3.out HB.out) | (with_reducible refine Kd.C_alloc ?_ _) | (with_reducible refine Kd.C_drewN ?_ _) | (with_reducible refine Kd.C_drew ?_))); (case side8 => exact HC0_3.out); (case side9 => repeat (first | exact (Kd.C_below HR0_4.out HB.out) | (with_reducible refine Kd.C_alloc ?_ _) | (with_reducible refine Kd.C_drewN ?_ _) | (with_reducible refine Kd.C_drew ?_))); (case side10 => exact HC0_4.out); (case side11 => repeat (first | exact (Kd.C_below HR0_5.out HB.out) | (with_reducible refine Kd.C_alloc ?_ _) | (with_reducible refine Kd.C_drewN ?_ _) | (with_reducible refine Kd.C_drew ?_))); (case side12 => exact HC0_5.out); rintro e w14 ⟨rfl, hb⟩; refine ⟨_, rfl, ?_⟩; have n0_ := Aside0.mk (Kd.R_below (by (with_reducible repeat (first | apply Kd.R_alloc | apply Kd.R_drewN | apply Kd.R_drew)); exact HO_7.out) hb); have n1_ := Aside0.mk (blk_below (g := gb288) (o := .cells #[.slice A0_0 l0_0.length c0_0, .slice A0_1 l0_1.length c0_1, .slice A0_2 l0_2.length c0_2, .slice A0_3 l0_3.length c0_3, .slice A0_4 l0_4.length c0_4, .slice A0_5 l0_5.length c0_5] 38 (0, 0)) (by (with_reducible repeat (first | refine blk_drewN ?_ _ | refine blk_drew ?_ | refine blk_alloc ?_ _)); exact BK288.out) hb); have n2_ := Aside0.mk (below_step (by repeat (first | (with_reducible first | exact HB.out | apply below_alloc | apply pw_below_drewN | apply below_drew1 | refine below_set ?_ GE288.out) | exact HB.out)) hb); clear HO_7; clear BK288; clear HB; have HO_7 := n0_; have BK288 := n1_; have HB := n2_; clear n0_ n1_ n2_; (try clear hb); (try clear hb2); (try clear hk); (try clear hi); have p290 : 0 ≤ (t289 : Int) := of_decide_eq_true (by first | (with_reducible assumption) | assumption); have q290 : t289 < (l2.length : Int) := of_decide_eq_true (by first | (with_reducible assumption) | assumption); obtain ⟨ad290, e290, hx290_0⟩ := Kd.at_bool HR2.out t289 p290 q290; (try rw [← Nbq11.out] at hx290_0); cases e290; replace hx290_0 := (HB.out.cell (World.block_lt_of_cell? w _ hx290_0)).trans hx290_0; replace p290 := eq_true p290; replace q290 := eq_true q290))
        go_roundg k1
        case measure => have := HK1.out; omega
        case rel => exact ⟨(x7_1), (wrap64 (x13_1 + 1)), (by first | rfl | (simp; done) | (simp [*]; done)), H', ⟨by have := HK1.out; omega⟩, ⟨by (with_reducible repeat (first | apply Kd.R_alloc | apply Kd.R_drewN | apply Kd.R_drew)); exact HO_7.out⟩, ⟨by (with_reducible repeat (first | refine blk_drewN ?_ _ | refine blk_drew ?_ | refine blk_alloc ?_ _)); exact BK288.out⟩, ⟨by repeat (first | (with_reducible first | exact HB.out | apply below_alloc | apply pw_below_drewN | apply below_drew1 | refine below_set ?_ GE288.out) | exact HB.out)⟩⟩
       ·replace c12 := Bool.eq_false_iff.mpr c12
        subst c12
        have H1 : (if x7_1.length < 17592186044416 then (impl_neighbours.l0 k1 a1 l2 (x7_1 ++ [x13_1]) (l0_0.length : Int) (wrap64 (x13_1 + 1)) l0_0 l0_1 l0_2 l0_3 l0_4 l0_5) else (none)) = some r := by rw [if_neg (show ¬ (false = true) by decide)] at H; exact H
        clear H
        have H := H1
        clear H1
        by_cases c15 : x7_1.length < 17592186044416
        ·rw [if_pos c15] at H
         have LMc15 := Aside0.mk c15
         clear c15
         obtain ⟨y291, hy291⟩ : ∃ y_ : List Int, y_ = (x7_1 ++ [x13_1]) := ⟨_, rfl⟩
         replace H : (impl_neighbours.l0 k1 a1 l2 y291 (l0_0.length : Int) (wrap64 (x13_1 + 1)) l0_0 l0_1 l0_2 l0_3 l0_4 l0_5) = some r := by first | (rw [hy291]; with_reducible exact H) | (have H2_ := (Option.bind_some _ _).symm.trans H; rw [hy291]; with_reducible exact H2_) | (have H2_ := (Option.bind_some _ _).symm.trans H; with_reducible exact H2_) | with_reducible exact H | (rw [hy291]; exact H) | exact H
         have Ny291 := Aside0.mk hy291
         clear hy291
         have H' := Aside0.mk H
         clear H
         have hcz16_0 : wr.cell? ⟨gb288, 0, none⟩ = some (.slice A0_0 l0_0.length c0_0) := (blk_cell BK288.out 0).trans rfl
         have hcz16_1 : wr.cell? ⟨gb288, 1, none⟩ = some (.slice A0_1 l0_1.length c0_1) := (blk_cell BK288.out 1).trans rfl
         have hcz16_2 : wr.cell? ⟨gb288, 2, none⟩ = some (.slice A0_2 l0_2.length c0_2) := (blk_cell BK288.out 2).trans rfl
         have hcz16_3 : wr.cell? ⟨gb288, 3, none⟩ = some (.slice A0_3 l0_3.length c0_3) := (blk_cell BK288.out 3).trans rfl
         have hcz16_4 : wr.cell? ⟨gb288, 4, none⟩ = some (.slice A0_4 l0_4.length c0_4) := (blk_cell BK288.out 4).trans rfl
         have hcz16_5 : wr.cell? ⟨gb288, 5, none⟩ = some (.slice A0_5 l0_5.length c0_5) := (blk_cell BK288.out 5).trans rfl
         have hfz16_0 := blk_frozen BK288.out 0
         have hfz16_1 := blk_frozen BK288.out 1
         have hfz16_2 := blk_frozen BK288.out 2
         have hfz16_3 := blk_frozen BK288.out 3
         have hfz16_4 := blk_frozen BK288.out 4
         have hfz16_5 := blk_frozen BK288.out 5
         go_wp2_with (first | ((with_reducible refine gate_callee (f := 89) rfl ?_); refine goesL_ (some 19) rfl rfl Try.func89 (by kernel_rfl) rfl #[.agg #[.slice A0_0 l0_0.length c0_0, .slice A0_1 l0_1.length c0_1, .slice A0_2 l0_2.length c0_2, .slice A0_3 l0_3.length c0_3, .slice A0_4 l0_4.length c0_4, .slice A0_5 l0_5.length c0_5], .int .i64 a1, .int .i64 x13_1] rfl (by (try simp only [List.map_toArray, List.map_cons, List.map_nil]); first | done | rfl | (simp only [List.length_drop, List.length_take]; rfl)) ?_; (with_reducible refine (impl_linkOf.calls _ _ l0_0 _ _ l0_1 _ _ l0_2 _ _ l0_3 _ _ l0_4 _ _ l0_5 a1 x13_1 t289 _ ?side1 ?side2 ?side3 ?side4 ?side5 ?side6 ?side7 ?side8 ?side9 ?side10 ?side11 ?side12 A7.out).mono ?_); (case side1 => repeat (first | exact (Kd.C_below HR0_0.out HB.out) | (with_reducible refine Kd.C_alloc ?_ _) | (with_reducible refine Kd.C_drewN ?_ _) | (with_reducible refine Kd.C_drew ?_))); (case side2 => exact HC0_0.out); (case side3 => repeat (first | exact (Kd.C_below HR0_1.out HB.out) | (with_reducible refine Kd.C_alloc ?_ _) | (with_reducible refine Kd.C_drewN ?_ _) | (with_reducible refine Kd.C_drew ?_))); (case side4 => exact HC0_1.out); (case side5 => repeat (first | exact (Kd.C_below HR0_2.out HB.out) | (with_reducible refine Kd.C_alloc ?_ _) | (with_reducible refine Kd.C_drewN ?_ _) | (with_reducible refine Kd.C_drew ?_))); (case side6 => exact HC0_2.out); (case side7 => repeat (first | exact (Kd.C_below HR0_3.out HB.out) | (with_reducible refine Kd.C_alloc ?_ _) | (with_reducible refine Kd.C_drewN ?_ _) | (with_reducible refine Kd.C_drew ?_))); (case side8 => exact HC0_3.out); (case side9 => repeat (first | exact (Kd.C_below HR0_4.out HB.out) | (with_reducible refine Kd.C_alloc ?_ _) | (with_reducible refine Kd.C_drewN ?_ _) | (with_reducible refine Kd.C_drew ?_))); (case side10 => exact HC0_4.out); (case side11 => repeat (first | exact (Kd.C_below HR0_5.out HB.out) | (with_reducible refine Kd.C_alloc ?_ _) | (with_reducible refine Kd.C_drewN ?_ _) | (with_reducible refine Kd.C_drew ?_))); (case side12 => exact HC0_5.out); rintro e w17 ⟨rfl, hb⟩; refine ⟨_, rfl, ?_⟩; have n0_ := Aside0.mk (Kd.R_below (by (with_reducible repeat (first | apply Kd.R_alloc | apply Kd.R_drewN | apply Kd.R_drew)); exact HO_7.out) hb); have n1_ := Aside0.mk (blk_below (g := gb288) (o := .cells #[.slice A0_0 l0_0.length c0_0, .slice A0_1 l0_1.length c0_1, .slice A0_2 l0_2.length c0_2, .slice A0_3 l0_3.length c0_3, .slice A0_4 l0_4.length c0_4, .slice A0_5 l0_5.length c0_5] 38 (0, 0)) (by (with_reducible repeat (first | refine blk_drewN ?_ _ | refine blk_drew ?_ | refine blk_alloc ?_ _)); exact BK288.out) hb); have n2_ := Aside0.mk (below_step (by repeat (first | (with_reducible first | exact HB.out | apply below_alloc | apply pw_below_drewN | apply below_drew1 | refine below_set ?_ GE288.out) | exact HB.out)) hb); clear HO_7; clear BK288; clear HB; have HO_7 := n0_; have BK288 := n1_; have HB := n2_; clear n0_ n1_ n2_; (try clear hb); (try clear hb2); (try clear hk); (try clear hi); have p290 : 0 ≤ (t289 : Int) := of_decide_eq_true (by first | (with_reducible assumption) | assumption); have q290 : t289 < (l2.length : Int) := of_decide_eq_true (by first | (with_reducible assumption) | assumption); obtain ⟨ad290, e290, hx290_0⟩ := Kd.at_bool HR2.out t289 p290 q290; (try rw [← Nbq11.out] at hx290_0); cases e290; replace hx290_0 := (HB.out.cell (World.block_lt_of_cell? w _ hx290_0)).trans hx290_0; replace p290 := eq_true p290; replace q290 := eq_true q290) | ((with_reducible refine gate_builtin (b := .append) (xs := #[.tmp 29, .tmp 31]) rfl ?_); at_builtin; refine Kd.R_append (Kd.int .i64) (w0 := w) w.heap.size rfl (.tmp 29) (.tmp 31) 24 3 (.int .i64 0) 8 rfl Try.underlying24 info3 rfl (by decide) (by omega) u7 x7_1 x13_1 [.int .i64 x13_1] (fun _ => True) (fun _ => False) rfl rfl ?aP (fun _ hk => hk.elim) ?aF ?aO ?aB ?aS ?aL ?_; (case aP => exact rfl); (case aB => exact (by repeat (first | (with_reducible first | exact HB.out | apply below_alloc | apply pw_below_drewN | apply below_drew1 | refine below_set ?_ GE288.out) | exact HB.out))); (case aF => exact (fun _ _ => trivial)); (case aO => exact (by (with_reducible repeat (first | apply Kd.R_alloc | apply Kd.R_drewN | apply Kd.R_drew)); exact HO_7.out)); (case aS => exact (below_size (by repeat (first | (with_reducible first | exact HB.out | apply below_alloc | apply pw_below_drewN | apply below_drew1 | refine below_set ?_ GE288.out) | exact HB.out)))); (case aL => have := LMc15.out; omega); intro v292 w18 ho hb hg hat; rw [← Ny291.out] at ho; have n0_ := Aside0.mk (blk_grown (g := gb288) (o := .cells #[.slice A0_0 l0_0.length c0_0, .slice A0_1 l0_1.length c0_1, .slice A0_2 l0_2.length c0_2, .slice A0_3 l0_3.length c0_3, .slice A0_4 l0_4.length c0_4, .slice A0_5 l0_5.length c0_5] 38 (0, 0)) (by (with_reducible repeat (first | refine blk_drewN ?_ _ | refine blk_drew ?_ | refine blk_alloc ?_ _)); exact BK288.out) hg (Kd.R_ne HO_7.out BK288.out (by decide))); have n1_ := Aside0.mk (hb); have n2_ := Aside0.mk (ho); clear BK288; clear HB; clear HO_7; have BK288 := n0_; have HB := n1_; have HO293 := n2_; clear n0_ n1_ n2_; clear ho hb hg hat))
         go_roundg k1
         case measure => have := HK1.out; omega
         case rel => exact ⟨(y291), (wrap64 (x13_1 + 1)), (by first | rfl | (simp; done) | (simp [*]; done)), H', ⟨by have := HK1.out; omega⟩, ⟨by (with_reducible repeat (first | apply Kd.R_alloc | apply Kd.R_drewN | apply Kd.R_drew)); exact HO293.out⟩, ⟨by (with_reducible repeat (first | refine blk_drewN ?_ _ | refine blk_drew ?_ | refine blk_alloc ?_ _)); exact BK288.out⟩, ⟨by repeat (first | (with_reducible first | exact HB.out | apply below_alloc | apply pw_below_drewN | apply below_drew1 | refine below_set ?_ GE288.out) | exact HB.out)⟩⟩
        ·rw [if_neg c15] at H
         exact absurd H (by simp)
      ·rw [if_neg c10] at H
       exact absurd H (by simp)
     ·rw [if_neg c9] at H
      exact absurd H (by simp)
    ·rw [if_neg c8] at H
     have c8b0 : decide (0 ≤ t289) = false := decide_eq_false c8
     clear c8
     have H' := Aside0.mk H
     clear H
     have hcz19_0 : wr.cell? ⟨gb288, 0, none⟩ = some (.slice A0_0 l0_0.length c0_0) := (blk_cell BK288.out 0).trans rfl
     have hcz19_1 : wr.cell? ⟨gb288, 1, none⟩ = some (.slice A0_1 l0_1.length c0_1) := (blk_cell BK288.out 1).trans rfl
     have hcz19_2 : wr.cell? ⟨gb288, 2, none⟩ = some (.slice A0_2 l0_2.length c0_2) := (blk_cell BK288.out 2).trans rfl
     have hcz19_3 : wr.cell? ⟨gb288, 3, none⟩ = some (.slice A0_3 l0_3.length c0_3) := (blk_cell BK288.out 3).trans rfl
     have hcz19_4 : wr.cell? ⟨gb288, 4, none⟩ = some (.slice A0_4 l0_4.length c0_4) := (blk_cell BK288.out 4).trans rfl
     have hcz19_5 : wr.cell? ⟨gb288, 5, none⟩ = some (.slice A0_5 l0_5.length c0_5) := (blk_cell BK288.out 5).trans rfl
     have hfz19_0 := blk_frozen BK288.out 0
     have hfz19_1 := blk_frozen BK288.out 1
     have hfz19_2 := blk_frozen BK288.out 2
     have hfz19_3 := blk_frozen BK288.out 3
     have hfz19_4 := blk_frozen BK288.out 4
     have hfz19_5 := blk_frozen BK288.out 5
     go_wp2_with (first | ((with_reducible refine gate_callee (f := 89) rfl ?_); refine goesL_ (some 19) rfl rfl Try.func89 (by kernel_rfl) rfl #[.agg #[.slice A0_0 l0_0.length c0_0, .slice A0_1 l0_1.length c0_1, .slice A0_2 l0_2.length c0_2, .slice A0_3 l0_3.length c0_3, .slice A0_4 l0_4.length c0_4, .slice A0_5 l0_5.length c0_5], .int .i64 a1, .int .i64 x13_1] rfl (by (try simp only [List.map_toArray, List.map_cons, List.map_nil]); first | done | rfl | (simp only [List.length_drop, List.length_take]; rfl)) ?_; (with_reducible refine (impl_linkOf.calls _ _ l0_0 _ _ l0_1 _ _ l0_2 _ _ l0_3 _ _ l0_4 _ _ l0_5 a1 x13_1 t289 _ ?side1 ?side2 ?side3 ?side4 ?side5 ?side6 ?side7 ?side8 ?side9 ?side10 ?side11 ?side12 A7.out).mono ?_); (case side1 => repeat (first | exact (Kd.C_below HR0_0.out HB.out) | (with_reducible refine Kd.C_alloc ?_ _) | (with_reducible refine Kd.C_drewN ?_ _) | (with_reducible refine Kd.C_drew ?_))); (case side2 => exact HC0_0.out); (case side3 => repeat (first | exact (Kd.C_below HR0_1.out HB.out) | (with_reducible refine Kd.C_alloc ?_ _) | (with_reducible refine Kd.C_drewN ?_ _) | (with_reducible refine Kd.C_drew ?_))); (case side4 => exact HC0_1.out); (case side5 => repeat (first | exact (Kd.C_below HR0_2.out HB.out) | (with_reducible refine Kd.C_alloc ?_ _) | (with_reducible refine Kd.C_drewN ?_ _) | (with_reducible refine Kd.C_drew ?_))); (case side6 => exact HC0_2.out); (case side7 => repeat (first | exact (Kd.C_below HR0_3.out HB.out) | (with_reducible refine Kd.C_alloc ?_ _) | (with_reducible refine Kd.C_drewN ?_ _) | (with_reducible refine Kd.C_drew ?_))); (case side8 => exact HC0_3.out); (case side9 => repeat (first | exact (Kd.C_below HR0_4.out HB.out) | (with_reducible refine Kd.C_alloc ?_ _) | (with_reducible refine Kd.C_drewN ?_ _) | (with_reducible refine Kd.C_drew ?_))); (case side10 => exact HC0_4.out); (case side11 => repeat (first | exact (Kd.C_below HR0_5.out HB.out) | (with_reducible refine Kd.C_alloc ?_ _) | (with_reducible refine Kd.C_drewN ?_ _) | (with_reducible refine Kd.C_drew ?_))); (case side12 => exact HC0_5.out); rintro e w20 ⟨rfl, hb⟩; refine ⟨_, rfl, ?_⟩; have n0_ := Aside0.mk (Kd.R_below (by (with_reducible repeat (first | apply Kd.R_alloc | apply Kd.R_drewN | apply Kd.R_drew)); exact HO_7.out) hb); have n1_ := Aside0.mk (blk_below (g := gb288) (o := .cells #[.slice A0_0 l0_0.length c0_0, .slice A0_1 l0_1.length c0_1, .slice A0_2 l0_2.length c0_2, .slice A0_3 l0_3.length c0_3, .slice A0_4 l0_4.length c0_4, .slice A0_5 l0_5.length c0_5] 38 (0, 0)) (by (with_reducible repeat (first | refine blk_drewN ?_ _ | refine blk_drew ?_ | refine blk_alloc ?_ _)); exact BK288.out) hb); have n2_ := Aside0.mk (below_step (by repeat (first | (with_reducible first | exact HB.out | apply below_alloc | apply pw_below_drewN | apply below_drew1 | refine below_set ?_ GE288.out) | exact HB.out)) hb); clear HO_7; clear BK288; clear HB; have HO_7 := n0_; have BK288 := n1_; have HB := n2_; clear n0_ n1_ n2_; (try clear hb); (try clear hb2); (try clear hk); (try clear hi)))
     go_roundg k1
     case measure => have := HK1.out; omega
     case rel => exact ⟨(x7_1), (wrap64 (x13_1 + 1)), (by first | rfl | (simp; done) | (simp [*]; done)), H', ⟨by have := HK1.out; omega⟩, ⟨by (with_reducible repeat (first | apply Kd.R_alloc | apply Kd.R_drewN | apply Kd.R_drew)); exact HO_7.out⟩, ⟨by (with_reducible repeat (first | refine blk_drewN ?_ _ | refine blk_drew ?_ | refine blk_alloc ?_ _)); exact BK288.out⟩, ⟨by repeat (first | (with_reducible first | exact HB.out | apply below_alloc | apply pw_below_drewN | apply below_drew1 | refine below_set ?_ GE288.out) | exact HB.out)⟩⟩
   ·rw [if_neg c6] at H
    have c6b0 : decide (x13_1 < (l0_0.length : Int)) = false := decide_eq_false c6
    clear c6
    obtain rfl := Option.some.inj H
    go_wp2
    go_ret
    exact ⟨_, by first | rfl | (simp [errW_none, errW_some] <;> rfl) | (simp [*, errW_none, errW_some] <;> rfl), by (with_reducible repeat (first | apply Kd.R_alloc | apply Kd.R_drewN | apply Kd.R_drew)); exact HO_7.out, by repeat (first | (with_reducible first | exact HB.out | apply below_alloc | apply pw_below_drewN | apply below_drew1 | refine below_set ?_ GE288.out) | exact HB.out)⟩
def impl_Neighbours.f (k : Nat) (l0_0 : List ByteArray) (l0_1 : List (S92)) (l0_2 : List Int) (l0_3 : List Int) (l0_4 : List (S95)) (l0_5 : List (S97)) (a1 : Int) (l2 : List Bool) : Option (List Int × Int) := if (l2.length : Int) > 4096 then (some (([] : List Int), 2)) else ((impl_isNet.f k l0_0 l0_1 l0_2 l0_3 l0_4 l0_5).bind fun t295 => (if t295 = true then ((impl_isRouter.f l0_0 l0_1 l0_2 l0_3 l0_4 l0_5 a1).bind fun t296 => (if t296 = true then (if (l2.length : Int) = (l0_1.length : Int) then ((impl_neighbours.f k l0_0 l0_1 l0_2 l0_3 l0_4 l0_5 a1 l2).bind fun t297 => (some (t297, 0))) else (some (([] : List Int), 5))) else (some (([] : List Int), 5)))) else (some (([] : List Int), 1))))
set_option maxHeartbeats 8000000 in
set_option maxRecDepth 100000 in
theorem impl_Neighbours.calls (k : Nat) (A0_0 : Option Addr) (c0_0 : Nat) (l0_0 : List ByteArray) (A0_1 : Option Addr) (c0_1 : Nat) (l0_1 : List (S92)) (A0_2 : Option Addr) (c0_2 : Nat) (l0_2 : List Int) (A0_3 : Option Addr) (c0_3 : Nat) (l0_3 : List Int) (A0_4 : Option Addr) (c0_4 : Nat) (l0_4 : List (S95)) (A0_5 : Option Addr) (c0_5 : Nat) (l0_5 : List (S97)) (a1 : Int) (A2 : Option Addr) (c2 : Nat) (l2 : List Bool) (r1 : List Int) (r2 : Int) (w : World) (hr0_0 : Kd.C Kd.string w A0_0 l0_0.length l0_0) (hc0_0 : l0_0.length ≤ c0_0) (hr0_1 : Kd.C k92 w A0_1 l0_1.length l0_1) (hc0_1 : l0_1.length ≤ c0_1) (hr0_2 : Kd.C (Kd.int .i64) w A0_2 l0_2.length l0_2) (hc0_2 : l0_2.length ≤ c0_2) (hr0_3 : Kd.C (Kd.int .i64) w A0_3 l0_3.length l0_3) (hc0_3 : l0_3.length ≤ c0_3) (hr0_4 : Kd.C k95 w A0_4 l0_4.length l0_4) (hc0_4 : l0_4.length ≤ c0_4) (hr0_5 : Kd.C k97 w A0_5 l0_5.length l0_5) (hc0_5 : l0_5.length ≤ c0_5) (hr2 : Kd.C Kd.bool w A2 l2.length l2) (hc2 : l2.length ≤ c2) (h : impl_Neighbours.f k l0_0 l0_1 l0_2 l0_3 l0_4 l0_5 a1 l2 = some (r1, r2)) :
  Calls Try.prog 26 #[.agg #[.slice A0_0 l0_0.length c0_0, .slice A0_1 l0_1.length c0_1, .slice A0_2 l0_2.length c0_2, .slice A0_3 l0_3.length c0_3, .slice A0_4 l0_4.length c0_4, .slice A0_5 l0_5.length c0_5], .int .i64 a1, .slice A2 l2.length c2] w fun e w' => ∃ v0_ : Value, e = .returned (.tuple #[v0_, .int .i64 r2]) ∧ Kd.R (Kd.int .i64) 3 w' w.heap.size (fun _ => True) v0_ r1 ∧ Below w.heap.size w w' := by
 have hu38 := Try.underlying38
 have HR0_0 := Aside0.mk hr0_0
 have HC0_0 := Aside0.mk hc0_0
 clear hr0_0 hc0_0
 have HR0_1 := Aside0.mk hr0_1
 have HC0_1 := Aside0.mk hc0_1
 clear hr0_1 hc0_1
 have HR0_2 := Aside0.mk hr0_2
 have HC0_2 := Aside0.mk hc0_2
 clear hr0_2 hc0_2
 have HR0_3 := Aside0.mk hr0_3
 have HC0_3 := Aside0.mk hc0_3
 clear hr0_3 hc0_3
 have HR0_4 := Aside0.mk hr0_4
 have HC0_4 := Aside0.mk hc0_4
 clear hr0_4 hc0_4
 have HR0_5 := Aside0.mk hr0_5
 have HC0_5 := Aside0.mk hc0_5
 clear hr0_5 hc0_5
 have HR2 := Aside0.mk hr2
 have HC2 := Aside0.mk hc2
 clear hr2 hc2
 have HB := Aside0.mk (Below.refl w.heap.size w)
 have H : (if (l2.length : Int) > 4096 then (some (([] : List Int), 2)) else ((impl_isNet.f k l0_0 l0_1 l0_2 l0_3 l0_4 l0_5).bind fun t295 => (if t295 = true then ((impl_isRouter.f l0_0 l0_1 l0_2 l0_3 l0_4 l0_5 a1).bind fun t296 => (if t296 = true then (if (l2.length : Int) = (l0_1.length : Int) then ((impl_neighbours.f k l0_0 l0_1 l0_2 l0_3 l0_4 l0_5 a1 l2).bind fun t297 => (some (t297, 0))) else (some (([] : List Int), 5))) else (some (([] : List Int), 5)))) else (some (([] : List Int), 1))))) = some (r1, r2) := h
 clear h
 by_cases c4 : (l2.length : Int) > 4096
 ·rw [if_pos c4] at H
  have c4b0 : decide (4096 < (l2.length : Int)) = true := decide_eq_true c4
  have c4b1 : decide (4096 < l2.length) = true := decide_eq_true (by omega)
  clear c4
  simp only [Option.some.injEq, Prod.mk.injEq] at H
  obtain ⟨rfl, rfl⟩ := H
  go_enter Try.func26, Try.ntmps26
  go_wp2_with (first | ((with_reducible refine gate_dst (N := 3) rfl ?_); (try (refine gate_guard (by rfl) ?_; dsimp only)); refine box_event ?hg (N := 3) ?hd (cs := #[.slice A0_0 l0_0.length c0_0, .slice A0_1 l0_1.length c0_1, .slice A0_2 l0_2.length c0_2, .slice A0_3 l0_3.length c0_3, .slice A0_4 l0_4.length c0_4, .slice A0_5 l0_5.length c0_5]) (t := 38) ?hr ?_; (case hd => rfl); (case hg => rfl); (case hr => first | (go_simp; done) | (go_simp; rfl)); intro gb294 hg w5 hbox hb; have n0_ := Aside0.mk (below_step (by repeat (first | (with_reducible first | exact HB.out | apply below_alloc | apply pw_below_drewN | apply below_drew1) | exact HB.out)) hb); have n1_ := Aside0.mk (hbox); have n2_ := Aside0.mk ((by rw [hg]; exact (below_size (by repeat (first | (with_reducible first | exact HB.out | apply below_alloc | apply pw_below_drewN | apply below_drew1) | exact HB.out))) : w.heap.size ≤ gb294)); have n3_ := Aside0.mk ((by rw [hg]; exact (below_size (by repeat (first | (with_reducible first | exact HB.out | apply below_alloc | apply pw_below_drewN | apply below_drew1) | exact HB.out))) : w.heap.size ≤ gb294)); clear HB; have HB := n0_; have BK294 := n1_; have GW294 := n2_; have GE294 := n3_; clear n0_ n1_ n2_ n3_; clear hb hbox hg))
  go_ret2
  exact ⟨_, by first | rfl | (simp [errW_none, errW_some] <;> rfl) | (simp [*, errW_none, errW_some] <;> rfl), by first | exact Kd.R_nil _ _ _ _ _ | exact Kd.N_nil _ _ _ _ _ | exact Kd.V_nil _ _ _ _ _ | exact Kd.Q_nil _ _ _ _ _ | exact Kd.S_nil _ _ _ _ _, by repeat (first | (with_reducible first | exact HB.out | apply below_alloc | apply pw_below_drewN | apply below_drew1 | refine below_set ?_ GE294.out) | exact HB.out)⟩
 ·rw [if_neg c4] at H
  have c4b0 : decide (4096 < (l2.length : Int)) = false := decide_eq_false c4
  have c4b1 : decide (4096 < l2.length) = false := decide_eq_false (by omega)
  clear c4
  replace H := Option.bind_eq_some_iff.mp H
  obtain ⟨t295, A60, H⟩ := H
  replace H : (if t295 = true then ((impl_isRouter.f l0_0 l0_1 l0_2 l0_3 l0_4 l0_5 a1).bind fun t296 => (if t296 = true then (if (l2.length : Int) = (l0_1.length : Int) then ((impl_neighbours.f k l0_0 l0_1 l0_2 l0_3 l0_4 l0_5 a1 l2).bind fun t297 => (some (t297, 0))) else (some (([] : List Int), 5))) else (some (([] : List Int), 5)))) else (some (([] : List Int), 1))) = some (r1, r2) := H
  have A6 := Aside0.mk A60
  clear A60
  by_cases c7 : t295 = true
  ·subst c7
   have H1 : ((impl_isRouter.f l0_0 l0_1 l0_2 l0_3 l0_4 l0_5 a1).bind fun t296 => (if t296 = true then (if (l2.length : Int) = (l0_1.length : Int) then ((impl_neighbours.f k l0_0 l0_1 l0_2 l0_3 l0_4 l0_5 a1 l2).bind fun t297 => (some (t297, 0))) else (some (([] : List Int), 5))) else (some (([] : List Int), 5)))) = some (r1, r2) := by rw [if_pos rfl] at H; exact H
   clear H
   have H := H1
   clear H1
   replace H := Option.bind_eq_some_iff.mp H
   obtain ⟨t296, A80, H⟩ := H
   replace H : (if t296 = true then (if (l2.length : Int) = (l0_1.length : Int) then ((impl_neighbours.f k l0_0 l0_1 l0_2 l0_3 l0_4 l0_5 a1 l2).bind fun t297 => (some (t297, 0))) else (some (([] : List Int), 5))) else (some (([] : List Int), 5))) = some (r1, r2) := H
   have A8 := Aside0.mk A80
   clear A80
   by_cases c9 : t296 = true
   ·subst c9
    have H1 : (if (l2.length : Int) = (l0_1.length : Int) then ((impl_neighbours.f k l0_0 l0_1 l0_2 l0_3 l0_4 l0_5 a1 l2).bind fun t297 => (some (t297, 0))) else (some (([] : List Int), 5))) = some (r1, r2) := by rw [if_pos rfl] at H; exact H
    clear H
    have H := H1
    clear H1
    by_cases c10 : (l2.length : Int) = (l0_1.length : Int)
    ·rw [if_pos c10] at H
     have c10b0 : ((l2.length : Int) == (l0_1.length : Int)) = true := beq_iff_eq.mpr c10
     have c10b1 : ((l2.length : Int) != (l0_1.length : Int)) = false := bne_eq_false_iff_eq.mpr c10
     have c10b2 : (l2.length == l0_1.length) = true := by first | simpa using c10 | (simp at c10 ⊢; omega)
     clear c10
     replace H := Option.bind_eq_some_iff.mp H
     obtain ⟨t297, A110, H⟩ := H
     replace H : (some (t297, 0)) = some (r1, r2) := H
     have A11 := Aside0.mk A110
     clear A110
     simp only [Option.some.injEq, Prod.mk.injEq] at H
     obtain ⟨rfl, rfl⟩ := H
     go_enter Try.func26, Try.ntmps26
     go_wp2_with (first | ((with_reducible refine gate_dst (N := 3) rfl ?_); (try (refine gate_guard (by rfl) ?_; dsimp only)); refine box_event ?hg (N := 3) ?hd (cs := #[.slice A0_0 l0_0.length c0_0, .slice A0_1 l0_1.length c0_1, .slice A0_2 l0_2.length c0_2, .slice A0_3 l0_3.length c0_3, .slice A0_4 l0_4.length c0_4, .slice A0_5 l0_5.length c0_5]) (t := 38) ?hr ?_; (case hd => rfl); (case hg => rfl); (case hr => first | (go_simp; done) | (go_simp; rfl)); intro gb294 hg w12 hbox hb; have n0_ := Aside0.mk (below_step (by repeat (first | (with_reducible first | exact HB.out | apply below_alloc | apply pw_below_drewN | apply below_drew1) | exact HB.out)) hb); have n1_ := Aside0.mk (hbox); have n2_ := Aside0.mk ((by rw [hg]; exact (below_size (by repeat (first | (with_reducible first | exact HB.out | apply below_alloc | apply pw_below_drewN | apply below_drew1) | exact HB.out))) : w.heap.size ≤ gb294)); have n3_ := Aside0.mk ((by rw [hg]; exact (below_size (by repeat (first | (with_reducible first | exact HB.out | apply below_alloc | apply pw_below_drewN | apply below_drew1) | exact HB.out))) : w.heap.size ≤ gb294)); clear HB; have HB := n0_; have BK294 := n1_; have GW294 := n2_; have GE294 := n3_; clear n0_ n1_ n2_ n3_; clear hb hbox hg; have hcz13_0 : w12.cell? ⟨gb294, 0, none⟩ = some (.slice A0_0 l0_0.length c0_0) := (blk_cell BK294.out 0).trans rfl; have hcz13_1 : w12.cell? ⟨gb294, 1, none⟩ = some (.slice A0_1 l0_1.length c0_1) := (blk_cell BK294.out 1).trans rfl; have hcz13_2 : w12.cell? ⟨gb294, 2, none⟩ = some (.slice A0_2 l0_2.length c0_2) := (blk_cell BK294.out 2).trans rfl; have hcz13_3 : w12.cell? ⟨gb294, 3, none⟩ = some (.slice A0_3 l0_3.length c0_3) := (blk_cell BK294.out 3).trans rfl; have hcz13_4 : w12.cell? ⟨gb294, 4, none⟩ = some (.slice A0_4 l0_4.length c0_4) := (blk_cell BK294.out 4).trans rfl; have hcz13_5 : w12.cell? ⟨gb294, 5, none⟩ = some (.slice A0_5 l0_5.length c0_5) := (blk_cell BK294.out 5).trans rfl; have hfz13_0 := blk_frozen BK294.out 0; have hfz13_1 := blk_frozen BK294.out 1; have hfz13_2 := blk_frozen BK294.out 2; have hfz13_3 := blk_frozen BK294.out 3; have hfz13_4 := blk_frozen BK294.out 4; have hfz13_5 := blk_frozen BK294.out 5) | ((with_reducible refine gate_callee (f := 62) rfl ?_); refine goesL_ (some 14) rfl rfl Try.func62 (by kernel_rfl) rfl #[.agg #[.slice A0_0 l0_0.length c0_0, .slice A0_1 l0_1.length c0_1, .slice A0_2 l0_2.length c0_2, .slice A0_3 l0_3.length c0_3, .slice A0_4 l0_4.length c0_4, .slice A0_5 l0_5.length c0_5]] rfl (by (try simp only [List.map_toArray, List.map_cons, List.map_nil]); first | done | rfl | (simp only [List.length_drop, List.length_take]; rfl)) ?_; (with_reducible refine (impl_isNet.calls k _ _ l0_0 _ _ l0_1 _ _ l0_2 _ _ l0_3 _ _ l0_4 _ _ l0_5 true _ ?side1 ?side2 ?side3 ?side4 ?side5 ?side6 ?side7 ?side8 ?side9 ?side10 ?side11 ?side12 A6.out).mono ?_); (case side1 => repeat (first | exact (Kd.C_below HR0_0.out HB.out) | (with_reducible refine Kd.C_alloc ?_ _) | (with_reducible refine Kd.C_drewN ?_ _) | (with_reducible refine Kd.C_drew ?_))); (case side2 => exact HC0_0.out); (case side3 => repeat (first | exact (Kd.C_below HR0_1.out HB.out) | (with_reducible refine Kd.C_alloc ?_ _) | (with_reducible refine Kd.C_drewN ?_ _) | (with_reducible refine Kd.C_drew ?_))); (case side4 => exact HC0_1.out); (case side5 => repeat (first | exact (Kd.C_below HR0_2.out HB.out) | (with_reducible refine Kd.C_alloc ?_ _) | (with_reducible refine Kd.C_drewN ?_ _) | (with_reducible refine Kd.C_drew ?_))); (case side6 => exact HC0_2.out); (case side7 => repeat (first | exact (Kd.C_below HR0_3.out HB.out) | (with_reducible refine Kd.C_alloc ?_ _) | (with_reducible refine Kd.C_drewN ?_ _) | (with_reducible refine Kd.C_drew ?_))); (case side8 => exact HC0_3.out); (case side9 => repeat (first | exact (Kd.C_below HR0_4.out HB.out) | (with_reducible refine Kd.C_alloc ?_ _) | (with_reducible refine Kd.C_drewN ?_ _) | (with_reducible refine Kd.C_drew ?_))); (case side10 => exact HC0_4.out); (case side11 => repeat (first | exact (Kd.C_below HR0_5.out HB.out) | (with_reducible refine Kd.C_alloc ?_ _) | (with_reducible refine Kd.C_drewN ?_ _) | (with_reducible refine Kd.C_drew ?_))); (case side12 => exact HC0_5.out); rintro e w14 ⟨rfl, hb⟩; refine ⟨_, rfl, ?_⟩; have n0_ := Aside0.mk (blk_below (g := gb294) (o := .cells #[.slice A0_0 l0_0.length c0_0, .slice A0_1 l0_1.length c0_1, .slice A0_2 l0_2.length c0_2, .slice A0_3 l0_3.length c0_3, .slice A0_4 l0_4.length c0_4, .slice A0_5 l0_5.length c0_5] 38 (0, 0)) (by (with_reducible repeat (first | refine blk_drewN ?_ _ | refine blk_drew ?_ | refine blk_alloc ?_ _)); exact BK294.out) hb); have n1_ := Aside0.mk (below_step (by repeat (first | (with_reducible first | exact HB.out | apply below_alloc | apply pw_below_drewN | apply below_drew1 | refine below_set ?_ GE294.out) | exact HB.out)) hb); clear BK294; clear HB; have BK294 := n0_; have HB := n1_; clear n0_ n1_; (try clear hb); (try clear hb2); (try clear hk); (try clear hi); have hcz15_0 : w14.cell? ⟨gb294, 0, none⟩ = some (.slice A0_0 l0_0.length c0_0) := (blk_cell BK294.out 0).trans rfl; have hcz15_1 : w14.cell? ⟨gb294, 1, none⟩ = some (.slice A0_1 l0_1.length c0_1) := (blk_cell BK294.out 1).trans rfl; have hcz15_2 : w14.cell? ⟨gb294, 2, none⟩ = some (.slice A0_2 l0_2.length c0_2) := (blk_cell BK294.out 2).trans rfl; have hcz15_3 : w14.cell? ⟨gb294, 3, none⟩ = some (.slice A0_3 l0_3.length c0_3) := (blk_cell BK294.out 3).trans rfl; have hcz15_4 : w14.cell? ⟨gb294, 4, none⟩ = some (.slice A0_4 l0_4.length c0_4) := (blk_cell BK294.out 4).trans rfl; have hcz15_5 : w14.cell? ⟨gb294, 5, none⟩ = some (.slice A0_5 l0_5.length c0_5) := (blk_cell BK294.out 5).trans rfl; have hfz15_0 := blk_frozen BK294.out 0; have hfz15_1 := blk_frozen BK294.out 1; have hfz15_2 := blk_frozen BK294.out 2; have hfz15_3 := blk_frozen BK294.out 3; have hfz15_4 := blk_frozen BK294.out 4; have hfz15_5 := blk_frozen BK294.out 5) | ((with_reducible refine gate_callee (f := 64) rfl ?_); refine goesL_ (some 19) rfl rfl Try.func64 (by kernel_rfl) rfl #[.agg #[.slice A0_0 l0_0.length c0_0, .slice A0_1 l0_1.length c0_1, .slice A0_2 l0_2.length c0_2, .slice A0_3 l0_3.length c0_3, .slice A0_4 l0_4.length c0_4, .slice A0_5 l0_5.length c0_5], .int .i64 a1] rfl (by (try simp only [List.map_toArray, List.map_cons, List.map_nil]); first | done | rfl | (simp only [List.length_drop, List.length_take]; rfl)) ?_; (with_reducible refine (impl_isRouter.calls _ _ l0_0 _ _ l0_1 _ _ l0_2 _ _ l0_3 _ _ l0_4 _ _ l0_5 a1 true _ ?side1 ?side2 ?side3 ?side4 ?side5 ?side6 ?side7 ?side8 ?side9 ?side10 ?side11 ?side12 A8.out).mono ?_); (case side1 => repeat (first | exact (Kd.C_below HR0_0.out HB.out) | (with_reducible refine Kd.C_alloc ?_ _) | (with_reducible refine Kd.C_drewN ?_ _) | (with_reducible refine Kd.C_drew ?_))); (case side2 => exact HC0_0.out); (case side3 => repeat (first | exact (Kd.C_below HR0_1.out HB.out) | (with_reducible refine Kd.C_alloc ?_ _) | (with_reducible refine Kd.C_drewN ?_ _) | (with_reducible refine Kd.C_drew ?_))); (case side4 => exact HC0_1.out); (case side5 => repeat (first | exact (Kd.C_below HR0_2.out HB.out) | (with_reducible refine Kd.C_alloc ?_ _) | (with_reducible refine Kd.C_drewN ?_ _) | (with_reducible refine Kd.C_drew ?_))); (case side6 => exact HC0_2.out); (case side7 => repeat (first | exact (Kd.C_below HR0_3.out HB.out) | (with_reducible refine Kd.C_alloc ?_ _) | (with_reducible refine Kd.C_drewN ?_ _) | (with_reducible refine Kd.C_drew ?_))); (case side8 => exact HC0_3.out); (case side9 => repeat (first | exact (Kd.C_below HR0_4.out HB.out) | (with_reducible refine Kd.C_alloc ?_ _) | (with_reducible refine Kd.C_drewN ?_ _) | (with_reducible refine Kd.C_drew ?_))); (case side10 => exact HC0_4.out); (case side11 => repeat (first | exact (Kd.C_below HR0_5.out HB.out) | (with_reducible refine Kd.C_alloc ?_ _) | (with_reducible refine Kd.C_drewN ?_ _) | (with_reducible refine Kd.C_drew ?_))); (case side12 => exact HC0_5.out); rintro e w16 ⟨rfl, hb⟩; refine ⟨_, rfl, ?_⟩; have n0_ := Aside0.mk (blk_below (g := gb294) (o := .cells #[.slice A0_0 l0_0.length c0_0, .slice A0_1 l0_1.length c0_1, .slice A0_2 l0_2.length c0_2, .slice A0_3 l0_3.length c0_3, .slice A0_4 l0_4.length c0_4, .slice A0_5 l0_5.length c0_5] 38 (0, 0)) (by (with_reducible repeat (first | refine blk_drewN ?_ _ | refine blk_drew ?_ | refine blk_alloc ?_ _)); exact BK294.out) hb); have n1_ := Aside0.mk (below_step (by repeat (first | (with_reducible first | exact HB.out | apply below_alloc | apply pw_below_drewN | apply below_drew1 | refine below_set ?_ GE294.out) | exact HB.out)) hb); clear BK294; clear HB; have BK294 := n0_; have HB := n1_; clear n0_ n1_; (try clear hb); (try clear hb2); (try clear hk); (try clear hi); have hcz17_0 : w16.cell? ⟨gb294, 0, none⟩ = some (.slice A0_0 l0_0.length c0_0) := (blk_cell BK294.out 0).trans rfl; have hcz17_1 : w16.cell? ⟨gb294, 1, none⟩ = some (.slice A0_1 l0_1.length c0_1) := (blk_cell BK294.out 1).trans rfl; have hcz17_2 : w16.cell? ⟨gb294, 2, none⟩ = some (.slice A0_2 l0_2.length c0_2) := (blk_cell BK294.out 2).trans rfl; have hcz17_3 : w16.cell? ⟨gb294, 3, none⟩ = some (.slice A0_3 l0_3.length c0_3) := (blk_cell BK294.out 3).trans rfl; have hcz17_4 : w16.cell? ⟨gb294, 4, none⟩ = some (.slice A0_4 l0_4.length c0_4) := (blk_cell BK294.out 4).trans rfl; have hcz17_5 : w16.cell? ⟨gb294, 5, none⟩ = some (.slice A0_5 l0_5.length c0_5) := (blk_cell BK294.out 5).trans rfl; have hfz17_0 := blk_frozen BK294.out 0; have hfz17_1 := blk_frozen BK294.out 1; have hfz17_2 := blk_frozen BK294.out 2; have hfz17_3 := blk_frozen BK294.out 3; have hfz17_4 := blk_frozen BK294.out 4; have hfz17_5 := blk_frozen BK294.out 5) | ((with_reducible refine gate_callee (f := 65) rfl ?_); refine goesL_ (some 32) rfl rfl Try.func65 (by kernel_rfl) rfl #[.agg #[.slice A0_0 l0_0.length c0_0, .slice A0_1 l0_1.length c0_1, .slice A0_2 l0_2.length c0_2, .slice A0_3 l0_3.length c0_3, .slice A0_4 l0_4.length c0_4, .slice A0_5 l0_5.length c0_5], .int .i64 a1, .slice A2 l2.length c2] rfl (by (try simp only [List.map_toArray, List.map_cons, List.map_nil]); first | done | rfl | (simp only [List.length_drop, List.length_take]; rfl)) ?_; (with_reducible refine (impl_neighbours.calls k _ _ l0_0 _ _ l0_1 _ _ l0_2 _ _ l0_3 _ _ l0_4 _ _ l0_5 a1 _ _ l2 t297 _ ?side1 ?side2 ?side3 ?side4 ?side5 ?side6 ?side7 ?side8 ?side9 ?side10 ?side11 ?side12 ?side13 ?side14 A11.out).mono ?_); (case side1 => repeat (first | exact (Kd.C_below HR0_0.out HB.out) | (with_reducible refine Kd.C_alloc ?_ _) | (with_reducible refine Kd.C_drewN ?_ _) | (with_reducible refine Kd.C_drew ?_))); (case side2 => exact HC0_0.out); (case side3 => repeat (first | exact (Kd.C_below HR0_1.out HB.out) | (with_reducible refine Kd.C_alloc ?_ _) | (with_reducible refine Kd.C_drewN ?_ _) | (with_reducible refine Kd.C_drew ?_))); (case side4 => exact HC0_1.out); (case side5 => repeat (first | exact (Kd.C_below HR0_2.out HB.out) | (with_reducible refine Kd.C_alloc ?_ _) | (with_reducible refine Kd.C_drewN ?_ _) | (with_reducible refine Kd.C_drew ?_))); (case side6 => exact HC0_2.out); (case side7 => repeat (first | exact (Kd.C_below HR0_3.out HB.out) | (with_reducible refine Kd.C_alloc ?_ _) | (with_reducible refine Kd.C_drewN ?_ _) | (with_reducible refine Kd.C_drew ?_))); (case side8 => exact HC0_3.out); (case side9 => repeat (first | exact (Kd.C_below HR0_4.out HB.out) | (with_reducible refine Kd.C_alloc ?_ _) | (with_reducible refine Kd.C_drewN ?_ _) | (with_reducible refine Kd.C_drew ?_))); (case side10 => exact HC0_4.out); (case side11 => repeat (first | exact (Kd.C_below HR0_5.out HB.out) | (with_reducible refine Kd.C_alloc ?_ _) | (with_reducible refine Kd.C_drewN ?_ _) | (with_reducible refine Kd.C_drew ?_))); (case side12 => exact HC0_5.out); (case side13 => repeat (first | exact (Kd.C_below HR2.out HB.out) | (with_reducible refine Kd.C_alloc ?_ _) | (with_reducible refine Kd.C_drewN ?_ _) | (with_reducible refine Kd.C_drew ?_))); (case side14 => exact HC2.out); rintro e w18 ⟨v298, rfl, ho0, hb⟩; refine ⟨_, rfl, ?_⟩; have n0_ := Aside0.mk (Kd.R_lower ho0 (below_size (by repeat (first | (with_reducible first | exact HB.out | apply below_alloc | apply pw_below_drewN | apply below_drew1 | refine below_set ?_ GE294.out) | exact HB.out)))); have n1_ := Aside0.mk (blk_below (g := gb294) (o := .cells #[.slice A0_0 l0_0.length c0_0, .slice A0_1 l0_1.length c0_1, .slice A0_2 l0_2.length c0_2, .slice A0_3 l0_3.length c0_3, .slice A0_4 l0_4.length c0_4, .slice A0_5 l0_5.length c0_5] 38 (0, 0)) (by (with_reducible repeat (first | refine blk_drewN ?_ _ | refine blk_drew ?_ | refine blk_alloc ?_ _)); exact BK294.out) hb); have n2_ := Aside0.mk (below_step (by repeat (first | (with_reducible first | exact HB.out | apply below_alloc | apply pw_below_drewN | apply below_drew1 | refine below_set ?_ GE294.out) | exact HB.out)) hb); clear BK294; clear HB; have HO299 := n0_; have BK294 := n1_; have HB := n2_; clear n0_ n1_ n2_; (try clear hb); (try clear hb2); (try clear hk); (try clear hi); (try clear ho0)))
     go_ret2
     exact ⟨_, by first | rfl | (simp [errW_none, errW_some] <;> rfl) | (simp [*, errW_none, errW_some] <;> rfl), by (with_reducible repeat (first | apply Kd.R_alloc | apply Kd.R_drewN | apply Kd.R_drew)); exact HO299.out, by repeat (first | (with_reducible first | exact HB.out | apply below_alloc | apply pw_below_drewN | apply below_drew1 | refine below_set ?_ GE294.out) | exact HB.out)⟩
    ·rw [if_neg c10] at H
     have c10b0 : ((l2.length : Int) == (l0_1.length : Int)) = false := beq_eq_false_iff_ne.mpr c10
     have c10b1 : ((l2.length : Int) != (l0_1.length : Int)) = true := bne_iff_ne.mpr c10
     have c10b2 : (l2.length == l0_1.length) = false := by first | simpa using c10 | (simp at c10 ⊢; omega)
     simp only [Option.some.injEq, Prod.mk.injEq] at H
     obtain ⟨rfl, rfl⟩ := H
     go_enter Try.func26, Try.ntmps26
     go_wp2_with (first | ((with_reducible refine gate_dst (N := 3) rfl ?_); (try (refine gate_guard (by rfl) ?_; dsimp only)); refine box_event ?hg (N := 3) ?hd (cs := #[.slice A0_0 l0_0.length c0_0, .slice A0_1 l0_1.length c0_1, .slice A0_2 l0_2.length c0_2, .slice A0_3 l0_3.length c0_3, .slice A0_4 l0_4.length c0_4, .slice A0_5 l0_5.length c0_5]) (t := 38) ?hr ?_; (case hd => rfl); (case hg => rfl); (case hr => first | (go_simp; done) | (go_simp; rfl)); intro gb294 hg w19 hbox hb; have n0_ := Aside0.mk (below_step (by repeat (first | (with_reducible first | exact HB.out | apply below_alloc | apply pw_below_drewN | apply below_drew1) | exact HB.out)) hb); have n1_ := Aside0.mk (hbox); have n2_ := Aside0.mk ((by rw [hg]; exact (below_size (by repeat (first | (with_reducible first | exact HB.out | apply below_alloc | apply pw_below_drewN | apply below_drew1) | exact HB.out))) : w.heap.size ≤ gb294)); have n3_ := Aside0.mk ((by rw [hg]; exact (below_size (by repeat (first | (with_reducible first | exact HB.out | apply below_alloc | apply pw_below_drewN | apply below_drew1) | exact HB.out))) : w.heap.size ≤ gb294)); clear HB; have HB := n0_; have BK294 := n1_; have GW294 := n2_; have GE294 := n3_; clear n0_ n1_ n2_ n3_; clear hb hbox hg; have hcz20_0 : w19.cell? ⟨gb294, 0, none⟩ = some (.slice A0_0 l0_0.length c0_0) := (blk_cell BK294.out 0).trans rfl; have hcz20_1 : w19.cell? ⟨gb294, 1, none⟩ = some (.slice A0_1 l0_1.length c0_1) := (blk_cell BK294.out 1).trans rfl; have hcz20_2 : w19.cell? ⟨gb294, 2, none⟩ = some (.slice A0_2 l0_2.length c0_2) := (blk_cell BK294.out 2).trans rfl; have hcz20_3 : w19.cell? ⟨gb294, 3, none⟩ = some (.slice A0_3 l0_3.length c0_3) := (blk_cell BK294.out 3).trans rfl; have hcz20_4 : w19.cell? ⟨gb294, 4, none⟩ = some (.slice A0_4 l0_4.length c0_4) := (blk_cell BK294.out 4).trans rfl; have hcz20_5 : w19.cell? ⟨gb294, 5, none⟩ = some (.slice A0_5 l0_5.length c0_5) := (blk_cell BK294.out 5).trans rfl; have hfz20_0 := blk_frozen BK294.out 0; have hfz20_1 := blk_frozen BK294.out 1; have hfz20_2 := blk_frozen BK294.out 2; have hfz20_3 := blk_frozen BK294.out 3; have hfz20_4 := blk_frozen BK294.out 4; have hfz20_5 := blk_frozen BK294.out 5) | ((with_reducible refine gate_callee (f := 62) rfl ?_); refine goesL_ (some 14) rfl rfl Try.func62 (by kernel_rfl) rfl #[.agg #[.slice A0_0 l0_0.length c0_0, .slice A0_1 l0_1.length c0_1, .slice A0_2 l0_2.length c0_2, .slice A0_3 l0_3.length c0_3, .slice A0_4 l0_4.length c0_4, .slice A0_5 l0_5.length c0_5]] rfl (by (try simp only [List.map_toArray, List.map_cons, List.map_nil]); first | done | rfl | (simp only [List.length_drop, List.length_take]; rfl)) ?_; (with_reducible refine (impl_isNet.calls k _ _ l0_0 _ _ l0_1 _ _ l0_2 _ _ l0_3 _ _ l0_4 _ _ l0_5 true _ ?side1 ?side2 ?side3 ?side4 ?side5 ?side6 ?side7 ?side8 ?side9 ?side10 ?side11 ?side12 A6.out).mono ?_); (case side1 => repeat (first | exact (Kd.C_below HR0_0.out HB.out) | (with_reducible refine Kd.C_alloc ?_ _) | (with_reducible refine Kd.C_drewN ?_ _) | (with_reducible refine Kd.C_drew ?_))); (case side2 => exact HC0_0.out); (case side3 => repeat (first | exact (Kd.C_below HR0_1.out HB.out) | (with_reducible refine Kd.C_alloc ?_ _) | (with_reducible refine Kd.C_drewN ?_ _) | (with_reducible refine Kd.C_drew ?_))); (case side4 => exact HC0_1.out); (case side5 => repeat (first | exact (Kd.C_below HR0_2.out HB.out) | (with_reducible refine Kd.C_alloc ?_ _) | (with_reducible refine Kd.C_drewN ?_ _) | (with_reducible refine Kd.C_drew ?_))); (case side6 => exact HC0_2.out); (case side7 => repeat (first | exact (Kd.C_below HR0_3.out HB.out) | (with_reducible refine Kd.C_alloc ?_ _) | (with_reducible refine Kd.C_drewN ?_ _) | (with_reducible refine Kd.C_drew ?_))); (case side8 => exact HC0_3.out); (case side9 => repeat (first | exact (Kd.C_below HR0_4.out HB.out) | (with_reducible refine Kd.C_alloc ?_ _) | (with_reducible refine Kd.C_drewN ?_ _) | (with_reducible refine Kd.C_drew ?_))); (case side10 => exact HC0_4.out); (case side11 => repeat (first | exact (Kd.C_below HR0_5.out HB.out) | (with_reducible refine Kd.C_alloc ?_ _) | (with_reducible refine Kd.C_drewN ?_ _) | (with_reducible refine Kd.C_drew ?_))); (case side12 => exact HC0_5.out); rintro e w21 ⟨rfl, hb⟩; refine ⟨_, rfl, ?_⟩; have n0_ := Aside0.mk (blk_below (g := gb294) (o := .cells #[.slice A0_0 l0_0.length c0_0, .slice A0_1 l0_1.length c0_1, .slice A0_2 l0_2.length c0_2, .slice A0_3 l0_3.length c0_3, .slice A0_4 l0_4.length c0_4, .slice A0_5 l0_5.length c0_5] 38 (0, 0)) (by (with_reducible repeat (first | refine blk_drewN ?_ _ | refine blk_drew ?_ | refine blk_alloc ?_ _)); exact BK294.out) hb); have n1_ := Aside0.mk (below_step (by repeat (first | (with_reducible first | exact HB.out | apply below_alloc | apply pw_below_drewN | apply below_drew1 | refine below_set ?_ GE294.out) | exact HB.out)) hb); clear BK294; clear HB; have BK294 := n0_; have HB := n1_; clear n0_ n1_; (try clear hb); (try clear hb2); (try clear hk); (try clear hi); have hcz22_0 : w21.cell? ⟨gb294, 0, none⟩ = some (.slice A0_0 l0_0.length c0_0) := (blk_cell BK294.out 0).trans rfl; have hcz22_1 : w21.cell? ⟨gb294, 1, none⟩ = some (.slice A0_1 l0_1.length c0_1) := (blk_cell BK294.out 1).trans rfl; have hcz22_2 : w21.cell? ⟨gb294, 2, none⟩ = some (.slice A0_2 l0_2.length c0_2) := (blk_cell BK294.out 2).trans rfl; have hcz22_3 : w21.cell? ⟨gb294, 3, none⟩ = some (.slice A0_3 l0_3.length c0_3) := (blk_cell BK294.out 3).trans rfl; have hcz22_4 : w21.cell? ⟨gb294, 4, none⟩ = some (.slice A0_4 l0_4.length c0_4) := (blk_cell BK294.out 4).trans rfl; have hcz22_5 : w21.cell? ⟨gb294, 5, none⟩ = some (.slice A0_5 l0_5.length c0_5) := (blk_cell BK294.out 5).trans rfl; have hfz22_0 := blk_frozen BK294.out 0; have hfz22_1 := blk_frozen BK294.out 1; have hfz22_2 := blk_frozen BK294.out 2; have hfz22_3 := blk_frozen BK294.out 3; have hfz22_4 := blk_frozen BK294.out 4; have hfz22_5 := blk_frozen BK294.out 5) | ((with_reducible refine gate_callee (f := 64) rfl ?_); refine goesL_ (some 19) rfl rfl Try.func64 (by kernel_rfl) rfl #[.agg #[.slice A0_0 l0_0.length c0_0, .slice A0_1 l0_1.length c0_1, .slice A0_2 l0_2.length c0_2, .slice A0_3 l0_3.length c0_3, .slice A0_4 l0_4.length c0_4, .slice A0_5 l0_5.length c0_5], .int .i64 a1] rfl (by (try simp only [List.map_toArray, List.map_cons, List.map_nil]); first | done | rfl | (simp only [List.length_drop, List.length_take]; rfl)) ?_; (with_reducible refine (impl_isRouter.calls _ _ l0_0 _ _ l0_1 _ _ l0_2 _ _ l0_3 _ _ l0_4 _ _ l0_5 a1 true _ ?side1 ?side2 ?side3 ?side4 ?side5 ?side6 ?side7 ?side8 ?side9 ?side10 ?side11 ?side12 A8.out).mono ?_); (case side1 => repeat (first | exact (Kd.C_below HR0_0.out HB.out) | (with_reducible refine Kd.C_alloc ?_ _) | (with_reducible refine Kd.C_drewN ?_ _) | (with_reducible refine Kd.C_drew ?_))); (case side2 => exact HC0_0.out); (case side3 => repeat (first | exact (Kd.C_below HR0_1.out HB.out) | (with_reducible refine Kd.C_alloc ?_ _) | (with_reducible refine Kd.C_drewN ?_ _) | (with_reducible refine Kd.C_drew ?_))); (case side4 => exact HC0_1.out); (case side5 => repeat (first | exact (Kd.C_below HR0_2.out HB.out) | (with_reducible refine Kd.C_alloc ?_ _) | (with_reducible refine Kd.C_drewN ?_ _) | (with_reducible refine Kd.C_drew ?_))); (case side6 => exact HC0_2.out); (case side7 => repeat (first | exact (Kd.C_below HR0_3.out HB.out) | (with_reducible refine Kd.C_alloc ?_ _) | (with_reducible refine Kd.C_drewN ?_ _) | (with_reducible refine Kd.C_drew ?_))); (case side8 => exact HC0_3.out); (case side9 => repeat (first | exact (Kd.C_below HR0_4.out HB.out) | (with_reducible refine Kd.C_alloc ?_ _) | (with_reducible refine Kd.C_drewN ?_ _) | (with_reducible refine Kd.C_drew ?_))); (case side10 => exact HC0_4.out); (case side11 => repeat (first | exact (Kd.C_below HR0_5.out HB.out) | (with_reducible refine Kd.C_alloc ?_ _) | (with_reducible refine Kd.C_drewN ?_ _) | (with_reducible refine Kd.C_drew ?_))); (case side12 => exact HC0_5.out); rintro e w23 ⟨rfl, hb⟩; refine ⟨_, rfl, ?_⟩; have n0_ := Aside0.mk (blk_below (g := gb294) (o := .cells #[.slice A0_0 l0_0.length c0_0, .slice A0_1 l0_1.length c0_1, .slice A0_2 l0_2.length c0_2, .slice A0_3 l0_3.length c0_3, .slice A0_4 l0_4.length c0_4, .slice A0_5 l0_5.length c0_5] 38 (0, 0)) (by (with_reducible repeat (first | refine blk_drewN ?_ _ | refine blk_drew ?_ | refine blk_alloc ?_ _)); exact BK294.out) hb); have n1_ := Aside0.mk (below_step (by repeat (first | (with_reducible first | exact HB.out | apply below_alloc | apply pw_below_drewN | apply below_drew1 | refine below_set ?_ GE294.out) | exact HB.out)) hb); clear BK294; clear HB; have BK294 := n0_; have HB := n1_; clear n0_ n1_; (try clear hb); (try clear hb2); (try clear hk); (try clear hi); have hcz24_0 : w23.cell? ⟨gb294, 0, none⟩ = some (.slice A0_0 l0_0.length c0_0) := (blk_cell BK294.out 0).trans rfl; have hcz24_1 : w23.cell? ⟨gb294, 1, none⟩ = some (.slice A0_1 l0_1.length c0_1) := (blk_cell BK294.out 1).trans rfl; have hcz24_2 : w23.cell? ⟨gb294, 2, none⟩ = some (.slice A0_2 l0_2.length c0_2) := (blk_cell BK294.out 2).trans rfl; have hcz24_3 : w23.cell? ⟨gb294, 3, none⟩ = some (.slice A0_3 l0_3.length c0_3) := (blk_cell BK294.out 3).trans rfl; have hcz24_4 : w23.cell? ⟨gb294, 4, none⟩ = some (.slice A0_4 l0_4.length c0_4) := (blk_cell BK294.out 4).trans rfl; have hcz24_5 : w23.cell? ⟨gb294, 5, none⟩ = some (.slice A0_5 l0_5.length c0_5) := (blk_cell BK294.out 5).trans rfl; have hfz24_0 := blk_frozen BK294.out 0; have hfz24_1 := blk_frozen BK294.out 1; have hfz24_2 := blk_frozen BK294.out 2; have hfz24_3 := blk_frozen BK294.out 3; have hfz24_4 := blk_frozen BK294.out 4; have hfz24_5 := blk_frozen BK294.out 5))
     go_ret2
     exact ⟨_, by first | rfl | (simp [errW_none, errW_some] <;> rfl) | (simp [*, errW_none, errW_some] <;> rfl), by first | exact Kd.R_nil _ _ _ _ _ | exact Kd.N_nil _ _ _ _ _ | exact Kd.V_nil _ _ _ _ _ | exact Kd.Q_nil _ _ _ _ _ | exact Kd.S_nil _ _ _ _ _, by repeat (first | (with_reducible first | exact HB.out | apply below_alloc | apply pw_below_drewN | apply below_drew1 | refine below_set ?_ GE294.out) | exact HB.out)⟩
   ·replace c9 := Bool.eq_false_iff.mpr c9
    subst c9
    have H1 : (some (([] : List Int), 5)) = some (r1, r2) := by rw [if_neg (show ¬ (false = true) by decide)] at H; exact H
    clear H
    have H := H1
    clear H1
    simp only [Option.some.injEq, Prod.mk.injEq] at H
    obtain ⟨rfl, rfl⟩ := H
    go_enter Try.func26, Try.ntmps26
    go_wp2_with (first | ((with_reducible refine gate_dst (N := 3) rfl ?_); (try (refine gate_guard (by rfl) ?_; dsimp only)); refine box_event ?hg (N := 3) ?hd (cs := #[.slice A0_0 l0_0.length c0_0, .slice A0_1 l0_1.length c0_1, .slice A0_2 l0_2.length c0_2, .slice A0_3 l0_3.length c0_3, .slice A0_4 l0_4.length c0_4, .slice A0_5 l0_5.length c0_5]) (t := 38) ?hr ?_; (case hd => rfl); (case hg => rfl); (case hr => first | (go_simp; done) | (go_simp; rfl)); intro gb294 hg w25 hbox hb; have n0_ := Aside0.mk (below_step (by repeat (first | (with_reducible first | exact HB.out | apply below_alloc | apply pw_below_drewN | apply below_drew1) | exact HB.out)) hb); have n1_ := Aside0.mk (hbox); have n2_ := Aside0.mk ((by rw [hg]; exact (below_size (by repeat (first | (with_reducible first | exact HB.out | apply below_alloc | apply pw_below_drewN | apply below_drew1) | exact HB.out))) : w.heap.size ≤ gb294)); have n3_ := Aside0.mk ((by rw [hg]; exact (below_size (by repeat (first | (with_reducible first | exact HB.out | apply below_alloc | apply pw_below_drewN | apply below_drew1) | exact HB.out))) : w.heap.size ≤ gb294)); clear HB; have HB := n0_; have BK294 := n1_; have GW294 := n2_; have GE294 := n3_; clear n0_ n1_ n2_ n3_; clear hb hbox hg; have hcz26_0 : w25.cell? ⟨gb294, 0, none⟩ = some (.slice A0_0 l0_0.length c0_0) := (blk_cell BK294.out 0).trans rfl; have hcz26_1 : w25.cell? ⟨gb294, 1, none⟩ = some (.slice A0_1 l0_1.length c0_1) := (blk_cell BK294.out 1).trans rfl; have hcz26_2 : w25.cell? ⟨gb294, 2, none⟩ = some (.slice A0_2 l0_2.length c0_2) := (blk_cell BK294.out 2).trans rfl; have hcz26_3 : w25.cell? ⟨gb294, 3, none⟩ = some (.slice A0_3 l0_3.length c0_3) := (blk_cell BK294.out 3).trans rfl; have hcz26_4 : w25.cell? ⟨gb294, 4, none⟩ = some (.slice A0_4 l0_4.length c0_4) := (blk_cell BK294.out 4).trans rfl; have hcz26_5 : w25.cell? ⟨gb294, 5, none⟩ = some (.slice A0_5 l0_5.length c0_5) := (blk_cell BK294.out 5).trans rfl; have hfz26_0 := blk_frozen BK294.out 0; have hfz26_1 := blk_frozen BK294.out 1; have hfz26_2 := blk_frozen BK294.out 2; have hfz26_3 := blk_frozen BK294.out 3; have hfz26_4 := blk_frozen BK294.out 4; have hfz26_5 := blk_frozen BK294.out 5) | ((with_reducible refine gate_callee (f := 62) rfl ?_); refine goesL_ (some 14) rfl rfl Try.func62 (by kernel_rfl) rfl #[.agg #[.slice A0_0 l0_0.length c0_0, .slice A0_1 l0_1.length c0_1, .slice A0_2 l0_2.length c0_2, .slice A0_3 l0_3.length c0_3, .slice A0_4 l0_4.length c0_4, .slice A0_5 l0_5.length c0_5]] rfl (by (try simp only [List.map_toArray, List.map_cons, List.map_nil]); first | done | rfl | (simp only [List.length_drop, List.length_take]; rfl)) ?_; (with_reducible refine (impl_isNet.calls k _ _ l0_0 _ _ l0_1 _ _ l0_2 _ _ l0_3 _ _ l0_4 _ _ l0_5 true _ ?side1 ?side2 ?side3 ?side4 ?side5 ?side6 ?side7 ?side8 ?side9 ?side10 ?side11 ?side12 A6.out).mono ?_); (case side1 => repeat (first | exact (Kd.C_below HR0_0.out HB.out) | (with_reducible refine Kd.C_alloc ?_ _) | (with_reducible refine Kd.C_drewN ?_ _) | (with_reducible refine Kd.C_drew ?_))); (case side2 => exact HC0_0.out); (case side3 => repeat (first | exact (Kd.C_below HR0_1.out HB.out) | (with_reducible refine Kd.C_alloc ?_ _) | (with_reducible refine Kd.C_drewN ?_ _) | (with_reducible refine Kd.C_drew ?_))); (case side4 => exact HC0_1.out); (case side5 => repeat (first | exact (Kd.C_below HR0_2.out HB.out) | (with_reducible refine Kd.C_alloc ?_ _) | (with_reducible refine Kd.C_drewN ?_ _) | (with_reducible refine Kd.C_drew ?_))); (case side6 => exact HC0_2.out); (case side7 => repeat (first | exact (Kd.C_below HR0_3.out HB.out) | (with_reducible refine Kd.C_alloc ?_ _) | (with_reducible refine Kd.C_drewN ?_ _) | (with_reducible refine Kd.C_drew ?_))); (case side8 => exact HC0_3.out); (case side9 => repeat (first | exact (Kd.C_below HR0_4.out HB.out) | (with_reducible refine Kd.C_alloc ?_ _) | (with_reducible refine Kd.C_drewN ?_ _) | (with_reducible refine Kd.C_drew ?_))); (case side10 => exact HC0_4.out); (case side11 => repeat (first | exact (Kd.C_below HR0_5.out HB.out) | (with_reducible refine Kd.C_alloc ?_ _) | (with_reducible refine Kd.C_drewN ?_ _) | (with_reducible refine Kd.C_drew ?_))); (case side12 => exact HC0_5.out); rintro e w27 ⟨rfl, hb⟩; refine ⟨_, rfl, ?_⟩; have n0_ := Aside0.mk (blk_below (g := gb294) (o := .cells #[.slice A0_0 l0_0.length c0_0, .slice A0_1 l0_1.length c0_1, .slice A0_2 l0_2.length c0_2, .slice A0_3 l0_3.length c0_3, .slice A0_4 l0_4.length c0_4, .slice A0_5 l0_5.length c0_5] 38 (0, 0)) (by (with_reducible repeat (first | refine blk_drewN ?_ _ | refine blk_drew ?_ | refine blk_alloc ?_ _)); exact BK294.out) hb); have n1_ := Aside0.mk (below_step (by repeat (first | (with_reducible first | exact HB.out | apply below_alloc | apply pw_below_drewN | apply below_drew1 | refine below_set ?_ GE294.out) | exact HB.out)) hb); clear BK294; clear HB; have BK294 := n0_; have HB := n1_; clear n0_ n1_; (try clear hb); (try clear hb2); (try clear hk); (try clear hi); have hcz28_0 : w27.cell? ⟨gb294, 0, none⟩ = some (.slice A0_0 l0_0.length c0_0) := (blk_cell BK294.out 0).trans rfl; have hcz28_1 : w27.cell? ⟨gb294, 1, none⟩ = some (.slice A0_1 l0_1.length c0_1) := (blk_cell BK294.out 1).trans rfl; have hcz28_2 : w27.cell? ⟨gb294, 2, none⟩ = some (.slice A0_2 l0_2.length c0_2) := (blk_cell BK294.out 2).trans rfl; have hcz28_3 : w27.cell? ⟨gb294, 3, none⟩ = some (.slice A0_3 l0_3.length c0_3) := (blk_cell BK294.out 3).trans rfl; have hcz28_4 : w27.cell? ⟨gb294, 4, none⟩ = some (.slice A0_4 l0_4.length c0_4) := (blk_cell BK294.out 4).trans rfl; have hcz28_5 : w27.cell? ⟨gb294, 5, none⟩ = some (.slice A0_5 l0_5.length c0_5) := (blk_cell BK294.out 5).trans rfl; have hfz28_0 := blk_frozen BK294.out 0; have hfz28_1 := blk_frozen BK294.out 1; have hfz28_2 := blk_frozen BK294.out 2; have hfz28_3 := blk_frozen BK294.out 3; have hfz28_4 := blk_frozen BK294.out 4; have hfz28_5 := blk_frozen BK294.out 5) | ((with_reducible refine gate_callee (f := 64) rfl ?_); refine goesL_ (some 19) rfl rfl Try.func64 (by kernel_rfl) rfl #[.agg #[.slice A0_0 l0_0.length c0_0, .slice A0_1 l0_1.length c0_1, .slice A0_2 l0_2.length c0_2, .slice A0_3 l0_3.length c0_3, .slice A0_4 l0_4.length c0_4, .slice A0_5 l0_5.length c0_5], .int .i64 a1] rfl (by (try simp only [List.map_toArray, List.map_cons, List.map_nil]); first | done | rfl | (simp only [List.length_drop, List.length_take]; rfl)) ?_; (with_reducible refine (impl_isRouter.calls _ _ l0_0 _ _ l0_1 _ _ l0_2 _ _ l0_3 _ _ l0_4 _ _ l0_5 a1 false _ ?side1 ?side2 ?side3 ?side4 ?side5 ?side6 ?side7 ?side8 ?side9 ?side10 ?side11 ?side12 A8.out).mono ?_); (case side1 => repeat (first | exact (Kd.C_below HR0_0.out HB.out) | (with_reducible refine Kd.C_alloc ?_ _) | (with_reducible refine Kd.C_drewN ?_ _) | (with_reducible refine Kd.C_drew ?_))); (case side2 => exact HC0_0.out); (case side3 => repeat (first | exact (Kd.C_below HR0_1.out HB.out) | (with_reducible refine Kd.C_alloc ?_ _) | (with_reducible refine Kd.C_drewN ?_ _) | (with_reducible refine Kd.C_drew ?_))); (case side4 => exact HC0_1.out); (case side5 => repeat (first | exact (Kd.C_below HR0_2.out HB.out) | (with_reducible refine Kd.C_alloc ?_ _) | (with_reducible refine Kd.C_drewN ?_ _) | (with_reducible refine Kd.C_drew ?_))); (case side6 => exact HC0_2.out); (case side7 => repeat (first | exact (Kd.C_below HR0_3.out HB.out) | (with_reducible refine Kd.C_alloc ?_ _) | (with_reducible refine Kd.C_drewN ?_ _) | (with_reducible refine Kd.C_drew ?_))); (case side8 => exact HC0_3.out); (case side9 => repeat (first | exact (Kd.C_below HR0_4.out HB.out) | (with_reducible refine Kd.C_alloc ?_ _) | (with_reducible refine Kd.C_drewN ?_ _) | (with_reducible refine Kd.C_drew ?_))); (case side10 => exact HC0_4.out); (case side11 => repeat (first | exact (Kd.C_below HR0_5.out HB.out) | (with_reducible refine Kd.C_alloc ?_ _) | (with_reducible refine Kd.C_drewN ?_ _) | (with_reducible refine Kd.C_drew ?_))); (case side12 => exact HC0_5.out); rintro e w29 ⟨rfl, hb⟩; refine ⟨_, rfl, ?_⟩; have n0_ := Aside0.mk (blk_below (g := gb294) (o := .cells #[.slice A0_0 l0_0.length c0_0, .slice A0_1 l0_1.length c0_1, .slice A0_2 l0_2.length c0_2, .slice A0_3 l0_3.length c0_3, .slice A0_4 l0_4.length c0_4, .slice A0_5 l0_5.length c0_5] 38 (0, 0)) (by (with_reducible repeat (first | refine blk_drewN ?_ _ | refine blk_drew ?_ | refine blk_alloc ?_ _)); exact BK294.out) hb); have n1_ := Aside0.mk (below_step (by repeat (first | (with_reducible first | exact HB.out | apply below_alloc | apply pw_below_drewN | apply below_drew1 | refine below_set ?_ GE294.out) | exact HB.out)) hb); clear BK294; clear HB; have BK294 := n0_; have HB := n1_; clear n0_ n1_; (try clear hb); (try clear hb2); (try clear hk); (try clear hi)))
    go_ret2
    exact ⟨_, by first | rfl | (simp [errW_none, errW_some] <;> rfl) | (simp [*, errW_none, errW_some] <;> rfl), by first | exact Kd.R_nil _ _ _ _ _ | exact Kd.N_nil _ _ _ _ _ | exact Kd.V_nil _ _ _ _ _ | exact Kd.Q_nil _ _ _ _ _ | exact Kd.S_nil _ _ _ _ _, by repeat (first | (with_reducible first | exact HB.out | apply below_alloc | apply pw_below_drewN | apply below_drew1 | refine below_set ?_ GE294.out) | exact HB.out)⟩
  ·replace c7 := Bool.eq_false_iff.mpr c7
   subst c7
   have H1 : (some (([] : List Int), 1)) = some (r1, r2) := by rw [if_neg (show ¬ (false = true) by decide)] at H; exact H
   clear H
   have H := H1
   clear H1
   simp only [Option.some.injEq, Prod.mk.injEq] at H
   obtain ⟨rfl, rfl⟩ := H
   go_enter Try.func26, Try.ntmps26
   go_wp2_with (first | ((with_reducible refine gate_dst (N := 3) rfl ?_); (try (refine gate_guard (by rfl) ?_; dsimp only)); refine box_event ?hg (N := 3) ?hd (cs := #[.slice A0_0 l0_0.length c0_0, .slice A0_1 l0_1.length c0_1, .slice A0_2 l0_2.length c0_2, .slice A0_3 l0_3.length c0_3, .slice A0_4 l0_4.length c0_4, .slice A0_5 l0_5.length c0_5]) (t := 38) ?hr ?_; (case hd => rfl); (case hg => rfl); (case hr => first | (go_simp; done) | (go_simp; rfl)); intro gb294 hg w30 hbox hb; have n0_ := Aside0.mk (below_step (by repeat (first | (with_reducible first | exact HB.out | apply below_alloc | apply pw_below_drewN | apply below_drew1) | exact HB.out)) hb); have n1_ := Aside0.mk (hbox); have n2_ := Aside0.mk ((by rw [hg]; exact (below_size (by repeat (first | (with_reducible first | exact HB.out | apply below_alloc | apply pw_below_drewN | apply below_drew1) | exact HB.out))) : w.heap.size ≤ gb294)); have n3_ := Aside0.mk ((by rw [hg]; exact (below_size (by repeat (first | (with_reducible first | exact HB.out | apply below_alloc | apply pw_below_drewN | apply below_drew1) | exact HB.out))) : w.heap.size ≤ gb294)); clear HB; have HB := n0_; have BK294 := n1_; have GW294 := n2_; have GE294 := n3_; clear n0_ n1_ n2_ n3_; clear hb hbox hg; have hcz31_0 : w30.cell? ⟨gb294, 0, none⟩ = some (.slice A0_0 l0_0.length c0_0) := (blk_cell BK294.out 0).trans rfl; have hcz31_1 : w30.cell? ⟨gb294, 1, none⟩ = some (.slice A0_1 l0_1.length c0_1) := (blk_cell BK294.out 1).trans rfl; have hcz31_2 : w30.cell? ⟨gb294, 2, none⟩ = some (.slice A0_2 l0_2.length c0_2) := (blk_cell BK294.out 2).trans rfl; have hcz31_3 : w30.cell? ⟨gb294, 3, none⟩ = some (.slice A0_3 l0_3.length c0_3) := (blk_cell BK294.out 3).trans rfl; have hcz31_4 : w30.cell? ⟨gb294, 4, none⟩ = some (.slice A0_4 l0_4.length c0_4) := (blk_cell BK294.out 4).trans rfl; have hcz31_5 : w30.cell? ⟨gb294, 5, none⟩ = some (.slice A0_5 l0_5.length c0_5) := (blk_cell BK294.out 5).trans rfl; have hfz31_0 := blk_frozen BK294.out 0; have hfz31_1 := blk_frozen BK294.out 1; have hfz31_2 := blk_frozen BK294.out 2; have hfz31_3 := blk_frozen BK294.out 3; have hfz31_4 := blk_frozen BK294.out 4; have hfz31_5 := blk_frozen BK294.out 5) | ((with_reducible refine gate_callee (f := 62) rfl ?_); refine goesL_ (some 14) rfl rfl Try.func62 (by kernel_rfl) rfl #[.agg #[.slice A0_0 l0_0.length c0_0, .slice A0_1 l0_1.length c0_1, .slice A0_2 l0_2.length c0_2, .slice A0_3 l0_3.length c0_3, .slice A0_4 l0_4.length c0_4, .slice A0_5 l0_5.length c0_5]] rfl (by (try simp only [List.map_toArray, List.map_cons, List.map_nil]); first | done | rfl | (simp only [List.length_drop, List.length_take]; rfl)) ?_; (with_reducible refine (impl_isNet.calls k _ _ l0_0 _ _ l0_1 _ _ l0_2 _ _ l0_3 _ _ l0_4 _ _ l0_5 false _ ?side1 ?side2 ?side3 ?side4 ?side5 ?side6 ?side7 ?side8 ?side9 ?side10 ?side11 ?side12 A6.out).mono ?_); (case side1 => repeat (first | exact (Kd.C_below HR0_0.out HB.out) | (with_reducible refine Kd.C_alloc ?_ _) | (with_reducible refine Kd.C_drewN ?_ _) | (with_reducible refine Kd.C_drew ?_))); (case side2 => exact HC0_0.out); (case side3 => repeat (first | exact (Kd.C_below HR0_1.out HB.out) | (with_reducible refine Kd.C_alloc ?_ _) | (with_reducible refine Kd.C_drewN ?_ _) | (with_reducible refine Kd.C_drew ?_))); (case side4 => exact HC0_1.out); (case side5 => repeat (first | exact (Kd.C_below HR0_2.out HB.out) | (with_reducible refine Kd.C_alloc ?_ _) | (with_reducible refine Kd.C_drewN ?_ _) | (with_reducible refine Kd.C_drew ?_))); (case side6 => exact HC0_2.out); (case side7 => repeat (first | exact (Kd.C_below HR0_3.out HB.out) | (with_reducible refine Kd.C_alloc ?_ _) | (with_reducible refine Kd.C_drewN ?_ _) | (with_reducible refine Kd.C_drew ?_))); (case side8 => exact HC0_3.out); (case side9 => repeat (first | exact (Kd.C_below HR0_4.out HB.out) | (with_reducible refine Kd.C_alloc ?_ _) | (with_reducible refine Kd.C_drewN ?_ _) | (with_reducible refine Kd.C_drew ?_))); (case side10 => exact HC0_4.out); (case side11 => repeat (first | exact (Kd.C_below HR0_5.out HB.out) | (with_reducible refine Kd.C_alloc ?_ _) | (with_reducible refine Kd.C_drewN ?_ _) | (with_reducible refine Kd.C_drew ?_))); (case side12 => exact HC0_5.out); rintro e w32 ⟨rfl, hb⟩; refine ⟨_, rfl, ?_⟩; have n0_ := Aside0.mk (blk_below (g := gb294) (o := .cells #[.slice A0_0 l0_0.length c0_0, .slice A0_1 l0_1.length c0_1, .slice A0_2 l0_2.length c0_2, .slice A0_3 l0_3.length c0_3, .slice A0_4 l0_4.length c0_4, .slice A0_5 l0_5.length c0_5] 38 (0, 0)) (by (with_reducible repeat (first | refine blk_drewN ?_ _ | refine blk_drew ?_ | refine blk_alloc ?_ _)); exact BK294.out) hb); have n1_ := Aside0.mk (below_step (by repeat (first | (with_reducible first | exact HB.out | apply below_alloc | apply pw_below_drewN | apply below_drew1 | refine below_set ?_ GE294.out) | exact HB.out)) hb); clear BK294; clear HB; have BK294 := n0_; have HB := n1_; clear n0_ n1_; (try clear hb); (try clear hb2); (try clear hk); (try clear hi)))
   go_ret2
   exact ⟨_, by first | rfl | (simp [errW_none, errW_some] <;> rfl) | (simp [*, errW_none, errW_some] <;> rfl), by first | exact Kd.R_nil _ _ _ _ _ | exact Kd.N_nil _ _ _ _ _ | exact Kd.V_nil _ _ _ _ _ | exact Kd.Q_nil _ _ _ _ _ | exact Kd.S_nil _ _ _ _ _, by repeat (first | (with_reducible first | exact HB.out | apply below_alloc | apply pw_below_drewN | apply below_drew1 | refine below_set ?_ GE294.out) | exact HB.out)⟩
def laws_heldIntS.l0 : Nat → List Int → Int → Int → Option (Int)
 | 0, _, _, _ => none
 | k + 1, x0, x1, x5 => if x5 < (x0.length : Int) then (if 0 ≤ x5 then (if (rd x0 x5) = x1 then (laws_heldIntS.l0 k x0 (wrap64 (x1 + 1)) (wrap64 (x5 + 1))) else (some (-1))) else (none)) else (some x1)
def laws_heldIntS.f (k : Nat) (l0 : List Int) (a1 : Int) : Option (Int) := laws_heldIntS.l0 k l0 a1 0
set_option maxHeartbeats 8000000 in
set_option maxRecDepth 100000 in
theorem laws_heldIntS.calls (k : Nat) (A0 : Option Addr) (c0 : Nat) (l0 : List Int) (a1 : Int) (r : Int) (w : World) (hr0 : Kd.C (Kd.int .i64) w A0 l0.length l0) (hc0 : l0.length ≤ c0) (h : laws_heldIntS.f k l0 a1 = some r) :
  Calls Try.prog 27 #[.slice A0 l0.length c0, .int .i64 a1] w fun e w' => e = .returned (.int .i64 r) ∧ Drawn0 w w' := by
 have HR0 := Aside0.mk hr0
 have HC0 := Aside0.mk hc0
 clear hr0 hc0
 have H : (laws_heldIntS.l0 k l0 a1 0) = some r := h
 clear h
 have H' := Aside0.mk H
 clear H
 go_enter Try.func27, Try.ntmps27
 go_wp2
 go_loopg [1, 5] k (fun kq v1 v5 w' => ∃ (x1_1 : Int) (x5_1 : Int), v1 = .int .i64 x1_1 ∧ v5 = .int .i64 x5_1 ∧ Aside0 (laws_heldIntS.l0 kq l0 x1_1 x5_1 = some r) ∧ Aside0 (kq ≤ k) ∧ Drawn0 w w')
 case atStart => exact ⟨(a1), (0), (by first | rfl | (simp; done) | (simp [*]; done)), (by first | rfl | (simp; done) | (simp [*]; done)), H', ⟨Nat.le_refl _⟩, by repeat (first | exact Drawn0.refl _ | apply Drawn0.step)⟩
 case round =>
  clear H'
  try clear c2
  try clear p2
  obtain ⟨x1_1, x5_1, rfl, rfl, HA, HK1, ⟨m1, rfl⟩⟩ := hrel
  cases gk with
  | zero => exact absurd HA.out (by simp [laws_heldIntS.l0])
  | succ k1 =>
   have H := HA.out
   clear HA
   simp only [laws_heldIntS.l0] at H
   by_cases c3 : x5_1 < (l0.length : Int)
   ·rw [if_pos c3] at H
    have c3b0 : decide (x5_1 < (l0.length : Int)) = true := decide_eq_true c3
    clear c3
    by_cases c4 : 0 ≤ x5_1
    ·rw [if_pos c4] at H
     have c4b0 : decide (0 ≤ x5_1) = true := decide_eq_true c4
     clear c4
     by_cases c5 : (rd l0 x5_1) = x1_1
     ·rw [if_pos c5] at H
      have c5b0 : ((rd l0 x5_1) == x1_1) = true := beq_iff_eq.mpr c5
      have c5b1 : ((rd l0 x5_1) != x1_1) = false := bne_eq_false_iff_eq.mpr c5
      clear c5
      have H' := Aside0.mk H
      clear H
      have p300 : 0 ≤ (x5_1 : Int) := of_decide_eq_true (by first | (with_reducible assumption) | assumption)
      have q300 : x5_1 < (l0.length : Int) := of_decide_eq_true (by first | (with_reducible assumption) | assumption)
      obtain ⟨ad300, e300, hx300_0⟩ := Kd.at_int HR0.out x5_1 p300 q300
      cases e300
      replace p300 := eq_true p300
      replace q300 := eq_true q300
      go_wp2
      go_roundg k1
      case measure => have := HK1.out; omega
      case rel => exact ⟨(wrap64 (x1_1 + 1)), (wrap64 (x5_1 + 1)), (by first | rfl | (simp; done) | (simp [*]; done)), (by first | rfl | (simp; done) | (simp [*]; done)), H', ⟨by have := HK1.out; omega⟩, by repeat (first | exact Drawn0.refl _ | apply Drawn0.step)⟩
     ·rw [if_neg c5] at H
      have c5b0 : ((rd l0 x5_1) == x1_1) = false := beq_eq_false_iff_ne.mpr c5
      have c5b1 : ((rd l0 x5_1) != x1_1) = true := bne_iff_ne.mpr c5
      obtain rfl := Option.some.inj H
      have p300 : 0 ≤ (x5_1 : Int) := of_decide_eq_true (by first | (with_reducible assumption) | assumption)
      have q300 : x5_1 < (l0.length : Int) := of_decide_eq_true (by first | (with_reducible assumption) | assumption)
      obtain ⟨ad300, e300, hx300_0⟩ := Kd.at_int HR0.out x5_1 p300 q300
      cases e300
      replace p300 := eq_true p300
      replace q300 := eq_true q300
      go_wp2
      go_ret
      exact ⟨by first | rfl | (simp; done) | (simp [*]; done), by repeat (first | exact Drawn0.refl _ | apply Drawn0.step)⟩
    ·rw [if_neg c4] at H
     exact absurd H (by simp)
   ·rw [if_neg c3] at H
    have c3b0 : decide (x5_1 < (l0.length : Int)) = false := decide_eq_false c3
    clear c3
    obtain rfl := Option.some.inj H
    go_wp2
    go_ret
    exact ⟨by first | rfl | (simp; done) | (simp [*]; done), by repeat (first | exact Drawn0.refl _ | apply Drawn0.step)⟩
end Go.Proofs.Ytgibacfgjmdjdaa.PFnExactNeighbours
end
section
namespace Go.Proofs.Ytgibacfgjmdjdaa.PFnExactNeighbours
open Go.RowKit Go.Proofs.YtgibacfgjmdjdaaW.PrintWords Go.Proofs.YtgibacfgjmdjdaaW.PrintLast Go.Proofs.YtgibacfgjmdjdaaW.PrintMore
attribute [local go_sem] max2_int min2_int max_two min_two max_three min_three max_four min_four   -- for this text's walks alone
set_option linter.unusedVariables false
set_option linter.unusedSimpArgs false
section
variable {P : World → Prop} {V V2 : World} {ok S : Nat → Prop}
theorem foot_below (h : Foot P V ok) (hb : Below V.heap.size V V2) : Foot P V2 ok := h.step (fun k _ hlt => hb.block k hlt)
theorem foot_kept (h : Foot P V ok) (hk : Kept V V2 S) (hne : ∀ k, ok k → ¬ S k) : Foot P V2 ok := h.step (fun k hk' hlt => hk.2 k hlt (hne k hk'))
theorem foot_R {α : Type} {d : Kd α} {e base : Nat} {v : Value} {xs : List α} (h : d.R e V base ok v xs) : Foot (fun V => d.R e V base ok v xs) V ok := fun W' hW => Kd.R_step h hW
theorem foot_blk {g : Nat} {o : Obj} (h : V.heap[g]? = some o) (hok : ok g) : Foot (fun V => V.heap[g]? = some o) V ok := fun W' hW => (hW g hok (blk_lt h)).trans h
theorem foot_and {Q : World → Prop} (h : Foot P V ok) (k : Foot Q V ok) : Foot (fun V => P V ∧ Q V) V ok := fun W' hW => ⟨h W' hW, k W' hW⟩
theorem drawn_below (h : Drawn0 V V2) : Below V.heap.size V V2 := by
 obtain ⟨n, rfl⟩ := h.out
 exact pw_below_drewN (Below.refl _ _) n
theorem foot_C {α : Type} {d : Kd α} {A : Option Addr} {n : Nat} {xs : List α} (hd : Kd.Heap d) (h : d.C V A n xs) : Foot (fun V => d.C V A n xs) V (fun k => k < V.heap.size) := Kd.C_F hd h
end
theorem heap107 : Kd.Heap k107 := Kd.heap_iso _ (Kd.heap_pair (Kd.heap_int .i64) (Kd.heap_pair (Kd.heap_int .i64) (Kd.heap_int .i64)))
theorem heap109 : Kd.Heap k109 := Kd.heap_iso _ (Kd.heap_pair (Kd.heap_int .i64) (Kd.heap_pair (Kd.heap_int .i64) (Kd.heap_pair (Kd.heap_int .i64) (Kd.heap_pair (Kd.heap_int .i64) (Kd.heap_int .i64)))))
theorem heap111 : Kd.Heap k111 := Kd.heap_iso _ (Kd.heap_pair (Kd.heap_int .i64) (Kd.heap_pair (Kd.heap_int .i64) (Kd.heap_pair (Kd.heap_int .i64) (Kd.heap_int .i64))))
def NP (lo : Nat) (ok : Nat → Prop) (A0 : Option Addr) (c0 : Nat) (A1 : Option Addr) (c1 : Nat) (A2 : Option Addr) (c2 : Nat) (A3 : Option Addr) (c3 : Nat) (A4 : Option Addr) (c4 : Nat) (A5 : Option Addr) (c5 : Nat) (q0 : List ByteArray) (q1 : List S92) (q2 : List Int) (q3 : List Int) (q4 : List S95) (q5 : List S97) (V : World) : Prop := Kd.R Kd.string 9 V lo ok (.slice A0 q0.length c0) q0 ∧ Kd.R k92 92 V lo ok (.slice A1 q1.length c1) q1 ∧ Kd.R (Kd.int .i64) 3 V lo ok (.slice A2 q2.length c2) q2 ∧ Kd.R (Kd.int .i64) 3 V lo ok (.slice A3 q3.length c3) q3 ∧ Kd.R k95 95 V lo ok (.slice A4 q4.length c4) q4 ∧ Kd.R k97 97 V lo ok (.slice A5 q5.length c5) q5
def NO (A0 : Option Addr) (c0 : Nat) (A1 : Option Addr) (c1 : Nat) (A2 : Option Addr) (c2 : Nat) (A3 : Option Addr) (c3 : Nat) (A4 : Option Addr) (c4 : Nat) (A5 : Option Addr) (c5 : Nat) (q0 : List ByteArray) (q1 : List S92) (q2 : List Int) (q3 : List Int) (q4 : List S95) (q5 : List S97) : Nat → Prop := fun k => some k = (.slice A0 q0.length c0 : Value).ownBlock ∨ some k = (.slice A1 q1.length c1 : Value).ownBlock ∨ some k = (.slice A2 q2.length c2 : Value).ownBlock ∨ some k = (.slice A3 q3.length c3 : Value).ownBlock ∨ some k = (.slice A4 q4.length c4 : Value).ownBlock ∨ some k = (.slice A5 q5.length c5 : Value).ownBlock
section
variable {V W : World} {lo : Nat} {ok ok' : Nat → Prop} {A0 : Option Addr} {c0 : Nat} {A1 : Option Addr} {c1 : Nat} {A2 : Option Addr} {c2 : Nat} {A3 : Option Addr} {c3 : Nat} {A4 : Option Addr} {c4 : Nat} {A5 : Option Addr} {c5 : Nat} {q0 : List ByteArray} {q1 : List S92} {q2 : List Int} {q3 : List Int} {q4 : List S95} {q5 : List S97} {kf : Nat}
theorem NP.foot (h : NP lo ok A0 c0 A1 c1 A2 c2 A3 c3 A4 c4 A5 c5 q0 q1 q2 q3 q4 q5 V) : Foot (NP lo ok A0 c0 A1 c1 A2 c2 A3 c3 A4 c4 A5 c5 q0 q1 q2 q3 q4 q5) V ok := fun W' hW => ⟨Kd.R_step h.1 hW, Kd.R_step h.2.1 hW, Kd.R_step h.2.2.1 hW, Kd.R_step h.2.2.2.1 hW, Kd.R_step h.2.2.2.2.1 hW, Kd.R_step h.2.2.2.2.2 hW⟩
theorem NP.own (h : NP lo ok A0 c0 A1 c1 A2 c2 A3 c3 A4 c4 A5 c5 q0 q1 q2 q3 q4 q5 V) : ∀ k, NO A0 c0 A1 c1 A2 c2 A3 c3 A4 c4 A5 c5 q0 q1 q2 q3 q4 q5 k → ok k := fun k hk => by
 unfold NO at hk
 rcases hk with hk | hk | hk | hk | hk | hk
 ·exact h.1.1 k hk.symm
 ·exact h.2.1.1 k hk.symm
 ·exact h.2.2.1.1 k hk.symm
 ·exact h.2.2.2.1.1 k hk.symm
 ·exact h.2.2.2.2.1.1 k hk.symm
 ·exact h.2.2.2.2.2.1 k hk.symm
set_option maxHeartbeats 1000000 in
theorem toNet_any {w : World} (b0 : Nat) (hb0 : b0 ≤ w.heap.size) (a0 : Option Addr) (d0 : Nat) (l0 : List ByteArray) (a1 : Option Addr) (d1 : Nat) (l1 : List S107) (a2 : Option Addr) (d2 : Nat) (l2 : List Int) (a3 : Option Addr) (d3 : Nat) (l3 : List Int) (a4 : Option Addr) (d4 : Nat) (l4 : List S109) (a5 : Option Addr) (d5 : Nat) (l5 : List S111) (q0 : List ByteArray) (q1 : List S92) (q2 : List Int) (q3 : List Int) (q4 : List S95) (q5 : List S97) (hr0 : Kd.C Kd.string w a0 l0.length l0) (hc0 : l0.length ≤ d0) (hr1 : Kd.C k107 w a1 l1.length l1) (hc1 : l1.length ≤ d1) (hr2 : Kd.C (Kd.int .i64) w a2 l2.length l2) (hc2 : l2.length ≤ d2) (hr3 : Kd.C (Kd.int .i64) w a3 l3.length l3) (hc3 : l3.length ≤ d3) (hr4 : Kd.C k109 w a4 l4.length l4) (hc4 : l4.length ≤ d4) (hr5 : Kd.C k111 w a5 l5.length l5) (hc5 : l5.length ≤ d5) (h : laws_toNet.f kf l0 l1 l2 l3 l4 l5 = some (q0, q1, q2, q3, q4, q5)) :
  Calls Try.prog 10 #[.agg #[.slice a0 l0.length d0, .slice a1 l1.length d1, .slice a2 l2.length d2, .slice a3 l3.length d3, .slice a4 l4.length d4, .slice a5 l5.length d5]] w fun e w' => ∃ (A0 : Option Addr) (c0 : Nat) (A1 : Option Addr) (c1 : Nat) (A2 : Option Addr) (c2 : Nat) (A3 : Option Addr) (c3 : Nat) (A4 : Option Addr) (c4 : Nat) (A5 : Option Addr) (c5 : Nat), e = .returned (.agg #[.slice A0 q0.length c0, .slice A1 q1.length c1, .slice A2 q2.length c2, .slice A3 q3.length c3, .slice A4 q4.length c4, .slice A5 q5.length c5]) ∧ NP b0 (fun k => w.heap.size ≤ k ∧ k < w'.heap.size) A0 c0 A1 c1 A2 c2 A3 c3 A4 c4 A5 c5 q0 q1 q2 q3 q4 q5 w' ∧ (∀ k, some k = (.slice A2 q2.length c2 : Value).ownBlock → ¬ some k = (.slice A3 q3.length c3 : Value).ownBlock) ∧ Below w.heap.size w w' := by
 refine (laws_toNet.calls kf a0 d0 l0 a1 d1 l1 a2 d2 l2 a3 d3 l3 a4 d4 l4 a5 d5 l5 q0 q1 q2 q3 q4 q5 w hr0 hc0 hr1 hc1 hr2 hc2 hr3 hc3 hr4 hc4 hr5 hc5 h).mono ?_
 rintro e w' ⟨v0, v1, v2, v3, v4, v5, rfl, h0, h1, h2, h3, h4, h5, hb⟩
 obtain ⟨A0, c0, e0⟩ := Kd.R_slice h0
 subst e0
 obtain ⟨A1, c1, e1⟩ := Kd.R_slice h1
 subst e1
 obtain ⟨A2, c2, e2⟩ := Kd.R_slice h2
 subst e2
 obtain ⟨A3, c3, e3⟩ := Kd.R_slice h3
 subst e3
 obtain ⟨A4, c4, e4⟩ := Kd.R_slice h4
 subst e4
 obtain ⟨A5, c5, e5⟩ := Kd.R_slice h5
 subst e5
 refine ⟨A0, c0, A1, c1, A2, c2, A3, c3, A4, c4, A5, c5, rfl, ⟨Kd.R_mono (Kd.R_lower (Kd.R_bound h0) hb0) (fun k hk => ⟨hk.2.1, hk.2.2.1⟩), Kd.R_mono (Kd.R_lower (Kd.R_bound h1) hb0) (fun k hk => ⟨hk.2.1, hk.2.2.1⟩), Kd.R_mono (Kd.R_lower (Kd.R_bound h2) hb0) (fun k hk => ⟨hk.2.1, hk.2.2.1⟩), Kd.R_mono (Kd.R_lower (Kd.R_bound h3) hb0) (fun k hk => ⟨hk.2.1, hk.2.2.1⟩), Kd.R_mono (Kd.R_lower (Kd.R_bound h4) hb0) (fun k hk => ⟨hk.2.1, hk.2.2.1⟩), Kd.R_mono (Kd.R_lower (Kd.R_bound h5) hb0) (fun k hk => ⟨hk.2.1, hk.2.2.1⟩)⟩, (fun k e => h2.1 k e.symm), hb⟩
theorem eqNet_any {lo2 : Nat} {ok2 : Nat → Prop} {B0 : Option Addr} {e0 : Nat} {B1 : Option Addr} {e1 : Nat} {B2 : Option Addr} {e2 : Nat} {B3 : Option Addr} {e3 : Nat} {B4 : Option Addr} {e4 : Nat} {B5 : Option Addr} {e5 : Nat} {p0 : List ByteArray} {p1 : List S92} {p2 : List Int} {p3 : List Int} {p4 : List S95} {p5 : List S97} {r : Bool} (h1 : NP lo ok A0 c0 A1 c1 A2 c2 A3 c3 A4 c4 A5 c5 q0 q1 q2 q3 q4 q5 V) (h2 : NP lo2 ok2 B0 e0 B1 e1 B2 e2 B3 e3 B4 e4 B5 e5 p0 p1 p2 p3 p4 p5 V) (h : laws_eqNet.f kf q0 q1 q2 q3 q4 q5 p0 p1 p2 p3 p4 p5 = some r) :
  Calls Try.prog 15 #[.agg #[.slice A0 q0.length c0, .slice A1 q1.length c1, .slice A2 q2.length c2, .slice A3 q3.length c3, .slice A4 q4.length c4, .slice A5 q5.length c5], .agg #[.slice B0 p0.length e0, .slice B1 p1.length e1, .slice B2 p2.length e2, .slice B3 p3.length e3, .slice B4 p4.length e4, .slice B5 p5.length e5]] V fun e w' => e = .returned (.bool r) ∧ Below V.heap.size V w' :=
 laws_eqNet.calls kf A0 c0 q0 A1 c1 q1 A2 c2 q2 A3 c3 q3 A4 c4 q4 A5 c5 q5 B0 e0 p0 B1 e1 p1 B2 e2 p2 B3 e3 p3 B4 e4 p4 B5 e5 p5 r V (Kd.R_reads' h1.1).2.2 (Kd.R_reads' h1.1).2.1 (Kd.R_reads' h1.2.1).2.2 (Kd.R_reads' h1.2.1).2.1 (Kd.R_reads' h1.2.2.1).2.2 (Kd.R_reads' h1.2.2.1).2.1 (Kd.R_reads' h1.2.2.2.1).2.2 (Kd.R_reads' h1.2.2.2.1).2.1 (Kd.R_reads' h1.2.2.2.2.1).2.2 (Kd.R_reads' h1.2.2.2.2.1).2.1 (Kd.R_reads' h1.2.2.2.2.2).2.2 (Kd.R_reads' h1.2.2.2.2.2).2.1 (Kd.R_reads' h2.1).2.2 (Kd.R_reads' h2.1).2.1 (Kd.R_reads' h2.2.1).2.2 (Kd.R_reads' h2.2.1).2.1 (Kd.R_reads' h2.2.2.1).2.2 (Kd.R_reads' h2.2.2.1).2.1 (Kd.R_reads' h2.2.2.2.1).2.2 (Kd.R_reads' h2.2.2.2.1).2.1 (Kd.R_reads' h2.2.2.2.2.1).2.2 (Kd.R_reads' h2.2.2.2.2.1).2.1 (Kd.R_reads' h2.2.2.2.2.2).2.2 (Kd.R_reads' h2.2.2.2.2.2).2.1 h
theorem markNet_any {w0 : World} {a1 r1 : Int} {r2 : List ByteArray} {r3 : List S92} {r4 r5 : List Int} {r6 : List S95} {r7 : List S97} (hB : Below w0.heap.size w0 V) (h1 : NP w0.heap.size ok A0 c0 A1 c1 A2 c2 A3 c3 A4 c4 A5 c5 q0 q1 q2 q3 q4 q5 V) (hap : ∀ k, some k = (.slice A2 q2.length c2 : Value).ownBlock → ¬ some k = (.slice A3 q3.length c3 : Value).ownBlock) (h : laws_markNet.f kf q0 q1 q2 q3 q4 q5 a1 = some (r1, r2, r3, r4, r5, r6, r7)) :
  Calls Try.prog 18 #[.agg #[.slice A0 q0.length c0, .slice A1 q1.length c1, .slice A2 q2.length c2, .slice A3 q3.length c3, .slice A4 q4.length c4, .slice A5 q5.length c5], .int .i64 a1] V fun e w' => e = .returned (.int .i64 r1) ∧ Below w0.heap.size w0 w' ∧ Kept V w' ok := by
 refine (laws_markNet.calls kf (fun k_ => some k_ = (.slice A0 q0.length c0 : Value).ownBlock) (.slice A0 q0.length c0) q0 (fun k_ => some k_ = (.slice A1 q1.length c1 : Value).ownBlock) (.slice A1 q1.length c1) q1 (fun k_ => some k_ = (.slice A2 q2.length c2 : Value).ownBlock) (.slice A2 q2.length c2) q2 (fun k_ => some k_ = (.slice A3 q3.length c3 : Value).ownBlock) (.slice A3 q3.length c3) q3 (fun k_ => some k_ = (.slice A4 q4.length c4 : Value).ownBlock) (.slice A4 q4.length c4) q4 (fun k_ => some k_ = (.slice A5 q5.length c5 : Value).ownBlock) (.slice A5 q5.length c5) q5 a1 r1 r2 r3 r4 r5 r6 r7 w0 V hB (Kd.R_tight rfl h1.1) (Kd.R_tight rfl h1.2.1) (Kd.R_tight rfl h1.2.2.1) hap (Kd.R_tight rfl h1.2.2.2.1) (fun k e e2 => hap k e2 e) (Kd.R_tight rfl h1.2.2.2.2.1) (Kd.R_tight rfl h1.2.2.2.2.2) h).mono ?_
 rintro e w' ⟨rfl, -, -, -, -, -, -, hb, hk⟩
 exact ⟨rfl, hb, hk.mono (fun k hs => h1.own k hs)⟩
theorem spec_Neighbours_any {a1 s2 : Int} {X : Option Addr} {y : Nat} {l2 : List Bool} {s1 : List Int} (h1 : NP lo ok A0 c0 A1 c1 A2 c2 A3 c3 A4 c4 A5 c5 q0 q1 q2 q3 q4 q5 V) (hr2 : Kd.C Kd.bool V X l2.length l2) (hc2 : l2.length ≤ y) (h : spec_Neighbours.f kf q0 q1 q2 q3 q4 q5 a1 l2 = some (s1, s2)) :
  Calls Try.prog 25 #[.agg #[.slice A0 q0.length c0, .slice A1 q1.length c1, .slice A2 q2.length c2, .slice A3 q3.length c3, .slice A4 q4.length c4, .slice A5 q5.length c5], .int .i64 a1, .slice X l2.length y] V fun e w' => (∃ v0_ : Value, e = .returned (.tuple #[v0_, .int .i64 s2]) ∧ Kd.R (Kd.int .i64) 3 w' V.heap.size (fun _ => True) v0_ s1) ∧ Below V.heap.size V w' :=
 (spec_Neighbours.calls kf A0 c0 q0 A1 c1 q1 A2 c2 q2 A3 c3 q3 A4 c4 q4 A5 c5 q5 a1 X y l2 s1 s2 V (Kd.R_reads' h1.1).2.2 (Kd.R_reads' h1.1).2.1 (Kd.R_reads' h1.2.1).2.2 (Kd.R_reads' h1.2.1).2.1 (Kd.R_reads' h1.2.2.1).2.2 (Kd.R_reads' h1.2.2.1).2.1 (Kd.R_reads' h1.2.2.2.1).2.2 (Kd.R_reads' h1.2.2.2.1).2.1 (Kd.R_reads' h1.2.2.2.2.1).2.2 (Kd.R_reads' h1.2.2.2.2.1).2.1 (Kd.R_reads' h1.2.2.2.2.2).2.2 (Kd.R_reads' h1.2.2.2.2.2).2.1 hr2 hc2 h).mono (fun _ _ ⟨v, he, hr, hb⟩ => ⟨⟨v, he, hr⟩, hb⟩)
theorem impl_Neighbours_any {a1 s2 : Int} {X : Option Addr} {y : Nat} {l2 : List Bool} {s1 : List Int} (h1 : NP lo ok A0 c0 A1 c1 A2 c2 A3 c3 A4 c4 A5 c5 q0 q1 q2 q3 q4 q5 V) (hr2 : Kd.C Kd.bool V X l2.length l2) (hc2 : l2.length ≤ y) (h : impl_Neighbours.f kf q0 q1 q2 q3 q4 q5 a1 l2 = some (s1, s2)) :
  Calls Try.prog 26 #[.agg #[.slice A0 q0.length c0, .slice A1 q1.length c1, .slice A2 q2.length c2, .slice A3 q3.length c3, .slice A4 q4.length c4, .slice A5 q5.length c5], .int .i64 a1, .slice X l2.length y] V fun e w' => (∃ v0_ : Value, e = .returned (.tuple #[v0_, .int .i64 s2]) ∧ Kd.R (Kd.int .i64) 3 w' V.heap.size (fun _ => True) v0_ s1) ∧ Below V.heap.size V w' :=
 (impl_Neighbours.calls kf A0 c0 q0 A1 c1 q1 A2 c2 q2 A3 c3 q3 A4 c4 q4 A5 c5 q5 a1 X y l2 s1 s2 V (Kd.R_reads' h1.1).2.2 (Kd.R_reads' h1.1).2.1 (Kd.R_reads' h1.2.1).2.2 (Kd.R_reads' h1.2.1).2.1 (Kd.R_reads' h1.2.2.1).2.2 (Kd.R_reads' h1.2.2.1).2.1 (Kd.R_reads' h1.2.2.2.1).2.2 (Kd.R_reads' h1.2.2.2.1).2.1 (Kd.R_reads' h1.2.2.2.2.1).2.2 (Kd.R_reads' h1.2.2.2.2.1).2.1 (Kd.R_reads' h1.2.2.2.2.2).2.2 (Kd.R_reads' h1.2.2.2.2.2).2.1 hr2 hc2 h).mono (fun _ _ ⟨v, he, hr, hb⟩ => ⟨⟨v, he, hr⟩, hb⟩)
end
def lawN_T : Bool × List (List Nat × List Nat) := (true, [([], []), ([], []), ([1], [1]), ([0, 2, 2], [0, 2]), ([3], [3])])
def lawN_B : List Nat := [0, 0, 2, 7, 15]
theorem lawN_tab : rtab .any (opsOf Try.f5 13) = lawN_T := by kernel_rfl
theorem lawN_bits : waitsOk lawN_T.2 lawN_B = true := by kernel_rfl
theorem held_at (kf : Nat) (A : Option Addr) (c : Nat) (G : List Int) (n : Nat) (hn : G.length = n) (a r : Int) (w : World) (hR : Kd.C (Kd.int .i64) w A G.length G) (hc : n ≤ c) (h : laws_heldIntS.f kf G a = some r) : Calls Try.prog 27 #[.slice A n c, .int .i64 a] w fun e w' => e = .returned (.int .i64 r) ∧ Drawn0 w w' := by
 subst hn
 exact laws_heldIntS.calls kf A c G a r w hR hc h
def laws_FnExactNeighbours.f (kf : Nat) (l0_0 : List ByteArray) (l0_1 : List S107) (l0_2 : List Int) (l0_3 : List Int) (l0_4 : List S109) (l0_5 : List S111) (a1 : Int) (l2 : List Bool) : Option Bool :=
 if (l2.length : Int) > 1048576 then some true else
 (laws_szNet.f kf l0_0 l0_1 l0_2 l0_3 l0_4 l0_5 1048576).bind fun t => if t < 0 then some true else
 (laws_toNet.f kf l0_0 l0_1 l0_2 l0_3 l0_4 l0_5).bind fun q => (laws_toBoolS.f kf l2).bind fun t2 => (spec_Neighbours.f kf q.1 q.2.1 q.2.2.1 q.2.2.2.1 q.2.2.2.2.1 q.2.2.2.2.2 a1 t2).bind fun s => (impl_Neighbours.f kf q.1 q.2.1 q.2.2.1 q.2.2.2.1 q.2.2.2.2.1 q.2.2.2.2.2 a1 t2).bind fun g => (laws_eqIntS.f kf s.1 s.1).bind fun b1 => (laws_eqNet.f kf q.1 q.2.1 q.2.2.1 q.2.2.2.1 q.2.2.2.2.1 q.2.2.2.2.2 q.1 q.2.1 q.2.2.1 q.2.2.2.1 q.2.2.2.2.1 q.2.2.2.2.2).bind fun b2 => (laws_eqBoolS.f kf t2 t2).bind fun b4 => (laws_markNet.f kf q.1 q.2.1 q.2.2.1 q.2.2.2.1 q.2.2.2.2.1 q.2.2.2.2.2 1).bind fun m => (laws_markBoolS.f kf t2 m.1).bind fun y2 => (laws_markIntS.f kf s.1 1).bind fun z => (laws_heldIntS.f kf z.2 1).bind fun h =>
 if g = s ∧ b1 = true ∧ b2 = true ∧ b4 = true ∧ 0 ≤ y2.1 ∧ h = z.1 ∧ 0 ≤ z.1 ∧ z.2.length = s.1.length then some true else none
set_option maxHeartbeats 8000000 in
set_option maxRecDepth 100000 in
theorem laws_FnExactNeighbours.calls (kf : Nat) (A0_0 : Option Addr) (c0_0 : Nat) (l0_0 : List ByteArray) (A0_1 : Option Addr) (c0_1 : Nat) (l0_1 : List S107) (A0_2 : Option Addr) (c0_2 : Nat) (l0_2 : List Int) (A0_3 : Option Addr) (c0_3 : Nat) (l0_3 : List Int) (A0_4 : Option Addr) (c0_4 : Nat) (l0_4 : List S109) (A0_5 : Option Addr) (c0_5 : Nat) (l0_5 : List S111) (a1 : Int) (A2 : Option Addr) (c2 : Nat) (l2 : List Bool) (r : Bool) (w : World) (hr0_0 : Kd.C Kd.string w A0_0 l0_0.length l0_0) (hc0_0 : l0_0.length ≤ c0_0) (hr0_1 : Kd.C k107 w A0_1 l0_1.length l0_1) (hc0_1 : l0_1.length ≤ c0_1) (hr0_2 : Kd.C (Kd.int .i64) w A0_2 l0_2.length l0_2) (hc0_2 : l0_2.length ≤ c0_2) (hr0_3 : Kd.C (Kd.int .i64) w A0_3 l0_3.length l0_3) (hc0_3 : l0_3.length ≤ c0_3) (hr0_4 : Kd.C k109 w A0_4 l0_4.length l0_4) (hc0_4 : l0_4.length ≤ c0_4) (hr0_5 : Kd.C k111 w A0_5 l0_5.length l0_5) (hc0_5 : l0_5.length ≤ c0_5) (hr2 : Kd.C Kd.bool w A2 l2.length l2) (hc2 : l2.length ≤ c2) (h : laws_FnExactNeighbours.f kf l0_0 l0_1 l0_2 l0_3 l0_4 l0_5 a1 l2 = some r) :
  Calls Try.prog 5 #[.agg #[.slice A0_0 l0_0.length c0_0, .slice A0_1 l0_1.length c0_1, .slice A0_2 l0_2.length c0_2, .slice A0_3 l0_3.length c0_3, .slice A0_4 l0_4.length c0_4, .slice A0_5 l0_5.length c0_5], .int .i64 a1, .slice A2 l2.length c2] w fun e w' => e = .returned (.bool r) ∧ Below w.heap.size w w' := by
 have hu28 := Try.underlying28
 have hu38 := Try.underlying38
 unfold laws_FnExactNeighbours.f at h
 have hb1 : Below w.heap.size w (w.alloc (.cells #[.slice A0_0 l0_0.length c0_0, .slice A0_1 l0_1.length c0_1, .slice A0_2 l0_2.length c0_2, .slice A0_3 l0_3.length c0_3, .slice A0_4 l0_4.length c0_4, .slice A0_5 l0_5.length c0_5] 28)) := (Below.refl _ _).alloc (Nat.le_refl _) _
 have hW : (w.alloc (.cells #[.slice A0_0 l0_0.length c0_0, .slice A0_1 l0_1.length c0_1, .slice A0_2 l0_2.length c0_2, .slice A0_3 l0_3.length c0_3, .slice A0_4 l0_4.length c0_4, .slice A0_5 l0_5.length c0_5] 28)).heap[w.heap.size]? = some (.cells #[.slice A0_0 l0_0.length c0_0, .slice A0_1 l0_1.length c0_1, .slice A0_2 l0_2.length c0_2, .slice A0_3 l0_3.length c0_3, .slice A0_4 l0_4.length c0_4, .slice A0_5 l0_5.length c0_5] 28 (0, 0)) := by
  show (w.heap.push _)[w.heap.size]? = _
  simp
 obtain ⟨W1, hW1, BX, HB1⟩ : ∃ W1, w.alloc (.cells #[.slice A0_0 l0_0.length c0_0, .slice A0_1 l0_1.length c0_1, .slice A0_2 l0_2.length c0_2, .slice A0_3 l0_3.length c0_3, .slice A0_4 l0_4.length c0_4, .slice A0_5 l0_5.length c0_5] 28) = W1 ∧ W1.heap[w.heap.size]? = some (.cells #[.slice A0_0 l0_0.length c0_0, .slice A0_1 l0_1.length c0_1, .slice A0_2 l0_2.length c0_2, .slice A0_3 l0_3.length c0_3, .slice A0_4 l0_4.length c0_4, .slice A0_5 l0_5.length c0_5] 28 (0, 0)) ∧ Below w.heap.size w W1 := ⟨_, rfl, hW, hb1⟩
 have FA := Aside0.mk (foot_and (foot_blk (ok := fun k_ => k_ < W1.heap.size) BX (blk_lt BX)) (foot_and (foot_C Kd.heap_string (Kd.C_below hr0_0 HB1)) (foot_and (foot_C heap107 (Kd.C_below hr0_1 HB1)) (foot_and (foot_C (Kd.heap_int .i64) (Kd.C_below hr0_2 HB1)) (foot_and (foot_C (Kd.heap_int .i64) (Kd.C_below hr0_3 HB1)) (foot_and (foot_C heap109 (Kd.C_below hr0_4 HB1)) (foot_and (foot_C heap111 (Kd.C_below hr0_5 HB1)) (foot_C Kd.heap_bool (Kd.C_below hr2 HB1)))))))))
 have HB := Aside0.mk HB1
 have HQ := Aside0.mk (Nat.le_refl W1.heap.size)
 have HW1 := Aside0.mk hW1
 clear hb1 hW hW1 BX HB1 hr0_0 hr0_1 hr0_2 hr0_3 hr0_4 hr0_5 hr2
 by_cases hbig2 : (l2.length : Int) > 1048576
 ·rw [if_pos hbig2] at h
  obtain rfl := Option.some.inj h
  clear h
  go_enter Try.func5, Try.ntmps5
  go_wp2
  go_ret
  exact ⟨rfl, by rw [HW1.out]; exact HB.out⟩
 rw [if_neg hbig2] at h
 replace h := Option.bind_eq_some_iff.1 h
 obtain ⟨t, hsz, h⟩ := h
 by_cases ht : t < 0
 ·rw [if_pos ht] at h
  obtain rfl := Option.some.inj h
  clear h
  go_enter Try.func5, Try.ntmps5
  go_upto_region 4 with fail
  rw [HW1.out]
  clear HW1
  obtain ⟨hx0, hx1, hx2, hx3, hx4, hx5⟩ := box6 FA.out.now.1
  go_wp2_with (go_at_call 8; refine (laws_szNet.calls kf A0_0 c0_0 l0_0 A0_1 c0_1 l0_1 A0_2 c0_2 l0_2 A0_3 c0_3 l0_3 A0_4 c0_4 l0_4 A0_5 c0_5 l0_5 1048576 t W1 FA.out.now.2.1 hc0_0 FA.out.now.2.2.1 hc0_1 FA.out.now.2.2.2.1 hc0_2 FA.out.now.2.2.2.2.1 hc0_3 FA.out.now.2.2.2.2.2.1 hc0_4 FA.out.now.2.2.2.2.2.2.1 hc0_5 hsz).mono ?_; rintro e w2 ⟨rfl, hb⟩)
  go_ret
  exact ⟨rfl, HB.out.trans (hb.mono HB.out.size)⟩
 ·rw [if_neg ht] at h
  replace h := Option.bind_eq_some_iff.1 h
  obtain ⟨⟨q0, q1, q2, q3, q4, q5⟩, hto, h⟩ := h
  replace h := Option.bind_eq_some_iff.1 h
  obtain ⟨t2, ht2, h⟩ := h
  replace h := Option.bind_eq_some_iff.1 h
  obtain ⟨⟨s1, s2⟩, hsp, h⟩ := h
  replace h := Option.bind_eq_some_iff.1 h
  obtain ⟨g, him, h⟩ := h
  replace h := Option.bind_eq_some_iff.1 h
  obtain ⟨b1, heb, h⟩ := h
  replace h := Option.bind_eq_some_iff.1 h
  obtain ⟨b2, hen, h⟩ := h
  replace h := Option.bind_eq_some_iff.1 h
  obtain ⟨b4, he2, h⟩ := h
  replace h := Option.bind_eq_some_iff.1 h
  obtain ⟨⟨m0, n0, n1, n2, n3, n4, n5⟩, hmn, h⟩ := h
  replace h := Option.bind_eq_some_iff.1 h
  obtain ⟨⟨m1, tm2⟩, hm2, h⟩ := h
  replace h := Option.bind_eq_some_iff.1 h
  obtain ⟨⟨hz, G⟩, hmg, h⟩ := h
  replace h := Option.bind_eq_some_iff.1 h
  obtain ⟨hh, hhb, h⟩ := h
  simp only at hsp him heb hen hmn he2 hm2 hmg hhb h
  by_cases hc : g = (s1, s2) ∧ b1 = true ∧ b2 = true ∧ b4 = true ∧ 0 ≤ m1 ∧ hh = hz ∧ 0 ≤ hz ∧ G.length = s1.length
  ·rw [if_pos hc] at h
   obtain ⟨rfl, rfl, rfl, rfl, hk0, hhz, hk1, hGl⟩ := hc
   subst hhz
   obtain rfl := Option.some.inj h
   clear h
   have hne2 : (s2 != s2) = false := by simp
   have hne3 : (hh != hh) = false := by simp
   have hnk : ¬ m1 < 0 := by omega
   have hnh : ¬ hh < 0 := by omega
   clear hk0 hk1
   go_enter Try.func5, Try.ntmps5
   go_upto_region 4 with fail
   rw [HW1.out]
   clear HW1
   obtain ⟨hx0, hx1, hx2, hx3, hx4, hx5⟩ := box6 FA.out.now.1
   go_upto_region 7 with (go_at_call 8; (with_reducible refine (laws_szNet.calls kf A0_0 c0_0 l0_0 A0_1 c0_1 l0_1 A0_2 c0_2 l0_2 A0_3 c0_3 l0_3 A0_4 c0_4 l0_4 A0_5 c0_5 l0_5 1048576 t W1 FA.out.now.2.1 hc0_0 FA.out.now.2.2.1 hc0_1 FA.out.now.2.2.2.1 hc0_2 FA.out.now.2.2.2.2.1 hc0_3 FA.out.now.2.2.2.2.2.1 hc0_4 FA.out.now.2.2.2.2.2.2.1 hc0_5 hsz).mono ?_); rintro e w2 ⟨rfl, hb⟩; clear hx0 hx1 hx2 hx3 hx4 hx5; have mFA_ := Aside0.mk (foot_below FA.out hb); have mB_ := Aside0.mk (HB.out.trans (hb.mono HB.out.size)); have mQ_ := Aside0.mk (Nat.le_trans HQ.out hb.size); clear FA HB HQ; have FA := mFA_; have HB := mB_; have HQ := mQ_; clear mFA_ mB_ mQ_; obtain ⟨hx0, hx1, hx2, hx3, hx4, hx5⟩ := box6 FA.out.now.1; clear hb)
   go_upto_region 8 with (first
    | (go_at_call 10; (with_reducible refine (toNet_any (kf := kf) w.heap.size HB.out.size A0_0 c0_0 l0_0 A0_1 c0_1 l0_1 A0_2 c0_2 l0_2 A0_3 c0_3 l0_3 A0_4 c0_4 l0_4 A0_5 c0_5 l0_5 q0 q1 q2 q3 q4 q5 FA.out.now.2.1 hc0_0 FA.out.now.2.2.1 hc0_1 FA.out.now.2.2.2.1 hc0_2 FA.out.now.2.2.2.2.1 hc0_3 FA.out.now.2.2.2.2.2.1 hc0_4 FA.out.now.2.2.2.2.2.2.1 hc0_5 hto).mono ?_); rintro e w3a ⟨A3_0, c3_0, A3_1, c3_1, A3_2, c3_2, A3_3, c3_3, A3_4, c3_4, A3_5, c3_5, rfl, hN_, -, hb⟩; clear hx0 hx1 hx2 hx3 hx4 hx5; have mFA_ := Aside0.mk (foot_below FA.out hb); have mB_ := Aside0.mk (HB.out.trans (hb.mono HB.out.size)); have mQ_ := Aside0.mk (Nat.le_trans HQ.out hb.size); clear FA HB HQ; have FA := mFA_; have HB := mB_; have HQ := mQ_; clear mFA_ mB_ mQ_; obtain ⟨hx0, hx1, hx2, hx3, hx4, hx5⟩ := box6 FA.out.now.1; clear hb; have HN3 := Aside0.mk (NP.foot hN_); clear hN_)
    | (go_at_call 12; (with_reducible refine (laws_toBoolS.calls kf A2 c2 l2 t2 _ FA.out.now.2.2.2.2.2.2.2 hc2 ht2).mono ?_); rintro e w3r2 ⟨v3, rfl, hR_, hb⟩; clear hx0 hx1 hx2 hx3 hx4 hx5; have mFA_ := Aside0.mk (foot_below FA.out hb); have mHN3_ := Aside0.mk (foot_below HN3.out hb); have mB_ := Aside0.mk (HB.out.trans (hb.mono HB.out.size)); have mQ_ := Aside0.mk (Nat.le_trans HQ.out hb.size); clear FA HN3 HB HQ; have FA := mFA_; have HN3 := mHN3_; have HB := mB_; have HQ := mQ_; clear mFA_ mHN3_ mB_ mQ_; obtain ⟨hx0, hx1, hx2, hx3, hx4, hx5⟩ := box6 FA.out.now.1; clear hb; obtain ⟨A3_r2, c3_r2, ev_⟩ := Kd.R_slice hR_; subst ev_; have HR3_2 := Aside0.mk (foot_R hR_); clear hR_)
    | (go_at_call 25; (with_reducible refine (spec_Neighbours_any (kf := kf) HN3.out.now (Kd.R_reads' HR3_2.out.now).2.2 (Kd.R_reads' HR3_2.out.now).2.1 hsp).mono ?_); rintro e w4 ⟨⟨v4, rfl, hR4⟩, hb⟩; have HB3 := HB; clear HN3 HR3_2; clear hx0 hx1 hx2 hx3 hx4 hx5; have mFA_ := Aside0.mk (foot_below FA.out hb); have mB_ := Aside0.mk (HB.out.trans (hb.mono HB.out.size)); have mQ_ := Aside0.mk (Nat.le_trans HQ.out hb.size); clear FA HB HQ; have FA := mFA_; have HB := mB_; have HQ := mQ_; clear mFA_ mB_ mQ_; obtain ⟨hx0, hx1, hx2, hx3, hx4, hx5⟩ := box6 FA.out.now.1; clear hb; obtain ⟨A4, c4, ev4⟩ := Kd.R_slice hR4; subst ev4; have FW := Aside0.mk (foot_R (Kd.R_mono (ok' := fun k_ => k_ < w4.heap.size) (Kd.R_bound (Kd.R_lower hR4 HB3.out.size)) (fun k_ hk_ => hk_.2.2.1))); clear hR4 HB3))
   go_upto_region 9 with (go_at_call 10; (with_reducible refine (toNet_any (kf := kf) w.heap.size HB.out.size A0_0 c0_0 l0_0 A0_1 c0_1 l0_1 A0_2 c0_2 l0_2 A0_3 c0_3 l0_3 A0_4 c0_4 l0_4 A0_5 c0_5 l0_5 q0 q1 q2 q3 q4 q5 FA.out.now.2.1 hc0_0 FA.out.now.2.2.1 hc0_1 FA.out.now.2.2.2.1 hc0_2 FA.out.now.2.2.2.2.1 hc0_3 FA.out.now.2.2.2.2.2.1 hc0_4 FA.out.now.2.2.2.2.2.2.1 hc0_5 hto).mono ?_); rintro e w5 ⟨A5_0, c5_0, A5_1, c5_1, A5_2, c5_2, A5_3, c5_3, A5_4, c5_4, A5_5, c5_5, rfl, hN_, hap, hb⟩; have HS5 := Aside0.mk (NP.foot hN_); have HAP := Aside0.mk hap; clear hN_ hap; have HL5 := Aside0.mk hb.size; have HLE := Aside0.mk HQ.out; clear hx0 hx1 hx2 hx3 hx4 hx5; have mFA_ := Aside0.mk (foot_below FA.out hb); have mFW_ := Aside0.mk (foot_below FW.out hb); have mB_ := Aside0.mk (HB.out.trans (hb.mono HB.out.size)); have mQ_ := Aside0.mk (Nat.le_trans HQ.out hb.size); clear FA FW HB HQ; have FA := mFA_; have FW := mFW_; have HB := mB_; have HQ := mQ_; clear mFA_ mFW_ mB_ mQ_; obtain ⟨hx0, hx1, hx2, hx3, hx4, hx5⟩ := box6 FA.out.now.1; clear hb)
   have hb6 := (below_alloc (Below.refl w5.heap.size w5) (.cells #[.slice A5_0 q0.length c5_0, .slice A5_1 q1.length c5_1, .slice A5_2 q2.length c5_2, .slice A5_3 q3.length c5_3, .slice A5_4 q4.length c5_4, .slice A5_5 q5.length c5_5] 38))
   have hg6 := blk_new w5 (.cells #[.slice A5_0 q0.length c5_0, .slice A5_1 q1.length c5_1, .slice A5_2 q2.length c5_2, .slice A5_3 q3.length c5_3, .slice A5_4 q4.length c5_4, .slice A5_5 q5.length c5_5] 38)
   generalize w5.alloc (.cells #[.slice A5_0 q0.length c5_0, .slice A5_1 q1.length c5_1, .slice A5_2 q2.length c5_2, .slice A5_3 q3.length c5_3, .slice A5_4 q4.length c5_4, .slice A5_5 q5.length c5_5] 38) = w6 at hb6 hg6 ⊢
   have HG6 := Aside0.mk (foot_blk (ok := fun k_ => w4.heap.size ≤ k_ ∧ k_ < w6.heap.size) hg6 ⟨HL5.out, blk_lt hg6⟩)
   obtain ⟨hgx0, hgx1, hgx2, hgx3, hgx4, hgx5⟩ := box6 hg6
   have H6 := Aside0.mk hb6.size
   clear hx0 hx1 hx2 hx3 hx4 hx5
   have mFA_ := Aside0.mk (foot_below FA.out hb6)
   have mFW_ := Aside0.mk (foot_below FW.out hb6)
   have mHS5_ := Aside0.mk (foot_below HS5.out hb6)
   have mB_ := Aside0.mk (HB.out.trans (hb6.mono HB.out.size))
   have mQ_ := Aside0.mk (Nat.le_trans HQ.out hb6.size)
   clear FA FW HS5 HB HQ
   have FA := mFA_
   have FW := mFW_
   have HS5 := mHS5_
   have HB := mB_
   have HQ := mQ_
   clear mFA_ mFW_ mHS5_ mB_ mQ_
   obtain ⟨hx0, hx1, hx2, hx3, hx4, hx5⟩ := box6 FA.out.now.1
   clear hb6 hg6
   go_upto_region 10 with (go_at_call 12; (with_reducible refine (laws_toBoolS.calls kf A2 c2 l2 t2 _ FA.out.now.2.2.2.2.2.2.2 hc2 ht2).mono ?_); rintro e wx2 ⟨v6, rfl, hR6, hb⟩; have HX2 := Aside0.mk (foot_R (Kd.R_lower (Kd.R_mono (ok' := fun k_ => w6.heap.size ≤ k_ ∧ k_ < wx2.heap.size) (Kd.R_bound hR6) (fun k_ hk_ => ⟨hk_.2.1, hk_.2.2.1⟩)) HB.out.size)); have HZ2 := Aside0.mk hb.size; clear hx0 hx1 hx2 hx3 hx4 hx5; clear hgx0 hgx1 hgx2 hgx3 hgx4 hgx5; have mFA_ := Aside0.mk (foot_below FA.out hb); have mFW_ := Aside0.mk (foot_below FW.out hb); have mHS5_ := Aside0.mk (foot_below HS5.out hb); have mHG6_ := Aside0.mk (foot_below HG6.out hb); have mB_ := Aside0.mk (HB.out.trans (hb.mono HB.out.size)); have mQ_ := Aside0.mk (Nat.le_trans HQ.out hb.size); clear FA FW HS5 HG6 HB HQ; have FA := mFA_; have FW := mFW_; have HS5 := mHS5_; have HG6 := mHG6_; have HB := mB_; have HQ := mQ_; clear mFA_ mFW_ mHS5_ mHG6_ mB_ mQ_; obtain ⟨hx0, hx1, hx2, hx3, hx4, hx5⟩ := box6 FA.out.now.1; obtain ⟨hgx0, hgx1, hgx2, hgx3, hgx4, hgx5⟩ := box6 HG6.out.now; clear hb; obtain ⟨A6_2, c6_2, ev6⟩ := Kd.R_slice hR6; clear hR6; subst ev6)
   go_upto_region 11 with (go_at_call 26; (with_reducible refine (impl_Neighbours_any (kf := kf) HS5.out.now (Kd.R_reads' HX2.out.now).2.2 (Kd.R_reads' HX2.out.now).2.1 him).mono ?_); rintro e w8 ⟨⟨v7, rfl, hR7⟩, hb⟩; have HR7 := Aside0.mk (foot_R (Kd.R_lower (Kd.R_mono (ok' := fun k_ => wx2.heap.size ≤ k_) (Kd.R_bound hR7) (fun k_ hk_ => hk_.2.1)) HB.out.size)); clear hx0 hx1 hx2 hx3 hx4 hx5; clear hgx0 hgx1 hgx2 hgx3 hgx4 hgx5; have mFA_ := Aside0.mk (foot_below FA.out hb); have mFW_ := Aside0.mk (foot_below FW.out hb); have mHS5_ := Aside0.mk (foot_below HS5.out hb); have mHG6_ := Aside0.mk (foot_below HG6.out hb); have mHX2_ := Aside0.mk (foot_below HX2.out hb); have mB_ := Aside0.mk (HB.out.trans (hb.mono HB.out.size)); have mQ_ := Aside0.mk (Nat.le_trans HQ.out hb.size); clear FA FW HS5 HG6 HX2 HB HQ; have FA := mFA_; have FW := mFW_; have HS5 := mHS5_; have HG6 := mHG6_; have HX2 := mHX2_; have HB := mB_; have HQ := mQ_; clear mFA_ mFW_ mHS5_ mHG6_ mHX2_ mB_ mQ_; obtain ⟨hx0, hx1, hx2, hx3, hx4, hx5⟩ := box6 FA.out.now.1; obtain ⟨hgx0, hgx1, hgx2, hgx3, hgx4, hgx5⟩ := box6 HG6.out.now; clear hb; obtain ⟨A7, c7, ev7⟩ := Kd.R_slice hR7; clear hR7; subst ev7)
   go_upto_region 13 with (go_at_call 16; (with_reducible refine (laws_eqIntS.calls kf A7 c7 s1 A4 c4 s1 true _ (Kd.R_reads' HR7.out.now).2.2 (Kd.R_reads' HR7.out.now).2.1 (Kd.R_reads' FW.out.now).2.2 (Kd.R_reads' FW.out.now).2.1 heb).mono ?_); rintro e w9 ⟨rfl, hd⟩; have hb := drawn_below hd; clear hd; clear hx0 hx1 hx2 hx3 hx4 hx5; clear hgx0 hgx1 hgx2 hgx3 hgx4 hgx5; have mFA_ := Aside0.mk (foot_below FA.out hb); have mFW_ := Aside0.mk (foot_below FW.out hb); have mHS5_ := Aside0.mk (foot_below HS5.out hb); have mHG6_ := Aside0.mk (foot_below HG6.out hb); have mHX2_ := Aside0.mk (foot_below HX2.out hb); have mHR7_ := Aside0.mk (foot_below HR7.out hb); have mB_ := Aside0.mk (HB.out.trans (hb.mono HB.out.size)); have mQ_ := Aside0.mk (Nat.le_trans HQ.out hb.size); clear FA FW HS5 HG6 HX2 HR7 HB HQ; have FA := mFA_; have FW := mFW_; have HS5 := mHS5_; have HG6 := mHG6_; have HX2 := mHX2_; have HR7 := mHR7_; have HB := mB_; have HQ := mQ_; clear mFA_ mFW_ mHS5_ mHG6_ mHX2_ mHR7_ mB_ mQ_; obtain ⟨hx0, hx1, hx2, hx3, hx4, hx5⟩ := box6 FA.out.now.1; obtain ⟨hgx0, hgx1, hgx2, hgx3, hgx4, hgx5⟩ := box6 HG6.out.now; clear hb)
   have hbd := below_drew (Below.refl w9.heap.size w9)
   clear hx0 hx1 hx2 hx3 hx4 hx5
   clear hgx0 hgx1 hgx2 hgx3 hgx4 hgx5
   have mFA_ := Aside0.mk (foot_below FA.out hbd)
   have mFW_ := Aside0.mk (foot_below FW.out hbd)
   have mHS5_ := Aside0.mk (foot_below HS5.out hbd)
   have mHG6_ := Aside0.mk (foot_below HG6.out hbd)
   have mHX2_ := Aside0.mk (foot_below HX2.out hbd)
   have mHR7_ := Aside0.mk (foot_below HR7.out hbd)
   have mB_ := Aside0.mk (HB.out.trans (hbd.mono HB.out.size))
   have mQ_ := Aside0.mk (Nat.le_trans HQ.out hbd.size)
   clear FA FW HS5 HG6 HX2 HR7 HB HQ
   have FA := mFA_
   have FW := mFW_
   have HS5 := mHS5_
   have HG6 := mHG6_
   have HX2 := mHX2_
   have HR7 := mHR7_
   have HB := mB_
   have HQ := mQ_
   clear mFA_ mFW_ mHS5_ mHG6_ mHX2_ mHR7_ mB_ mQ_
   obtain ⟨hx0, hx1, hx2, hx3, hx4, hx5⟩ := box6 FA.out.now.1
   obtain ⟨hgx0, hgx1, hgx2, hgx3, hgx4, hgx5⟩ := box6 HG6.out.now
   clear hbd
   generalize hw9 : w9.drew = w10 at *
   refine start_ (n := 5) (S := fun w' => w'.cell? ⟨w.heap.size, 0, none⟩ = some (.slice A0_0 l0_0.length c0_0) ∧ w'.cell? ⟨w.heap.size, 1, none⟩ = some (.slice A0_1 l0_1.length c0_1) ∧ w'.cell? ⟨w.heap.size, 2, none⟩ = some (.slice A0_2 l0_2.length c0_2) ∧ w'.cell? ⟨w.heap.size, 3, none⟩ = some (.slice A0_3 l0_3.length c0_3) ∧ w'.cell? ⟨w.heap.size, 4, none⟩ = some (.slice A0_4 l0_4.length c0_4) ∧ w'.cell? ⟨w.heap.size, 5, none⟩ = some (.slice A0_5 l0_5.length c0_5) ∧ w'.cell? ⟨w5.heap.size, 0, none⟩ = some (.slice A5_0 q0.length c5_0) ∧ w'.cell? ⟨w5.heap.size, 1, none⟩ = some (.slice A5_1 q1.length c5_1) ∧ w'.cell? ⟨w5.heap.size, 2, none⟩ = some (.slice A5_2 q2.length c5_2) ∧ w'.cell? ⟨w5.heap.size, 3, none⟩ = some (.slice A5_3 q3.length c5_3) ∧ w'.cell? ⟨w5.heap.size, 4, none⟩ = some (.slice A5_4 q4.length c5_4) ∧ w'.cell? ⟨w5.heap.size, 5, none⟩ = some (.slice A5_5 q5.length c5_5)) (ds := []) #[false, false, false, false, false] (by kernel_rfl) rfl rfl (by rw [hw9]; exact ⟨hx0, hx1, hx2, hx3, hx4, hx5, hgx0, hgx1, hgx2, hgx3, hgx4, hgx5⟩) (fun hHeld => ?_)
   refine with_tabW lawN_tab lawN_bits (fun HT_ HW_ => ?_)
   rw [hw9] at hHeld ⊢
   clear hw9
   refine take_ (i := 0) (N := some 56) (v := ?_) (a' := ?_) #[true, false, false, false, false] rfl rfl (take_ofW HT_.out HW_.out (by kernel_rfl)) (fun _ _ _ h => h) (Or.inl ⟨by rfl, ?_⟩) hHeld ?_ ?_
   rotate_left
   ·rintro w' ⟨s0, s1, s2, s3, s4, s5, s6, s7, s8, s9, s10, s11⟩
    go_simp
    with_reducible rfl
   rotate_left
   ·simp only [Act.put, List.setIfInBounds_toArray, List.set_cons_zero, List.set_cons_succ, i64_w, i32_w]
    rfl
   refine take_ (i := 1) (N := some 57) (v := ?_) (a' := ?_) #[true, true, false, false, false] rfl rfl (take_ofW HT_.out HW_.out (by kernel_rfl)) (fun _ _ _ h => h) (Or.inl ⟨by rfl, ?_⟩) hHeld ?_ ?_
   rotate_left
   ·rintro w' ⟨s0, s1, s2, s3, s4, s5, s6, s7, s8, s9, s10, s11⟩
    go_simp
    with_reducible rfl
   rotate_left
   ·simp only [Act.put, List.setIfInBounds_toArray, List.set_cons_zero, List.set_cons_succ, i64_w, i32_w]
    rfl
   refine one_ (i := 2) (N := some 58) #[true, true, true, false, false] rfl rfl (one_of HT_.out (by kernel_rfl)) (by decide) (fun K hK => ?_)
   refine call_ 10 #[.agg #[.slice A0_0 l0_0.length c0_0, .slice A0_1 l0_1.length c0_1, .slice A0_2 l0_2.length c0_2, .slice A0_3 l0_3.length c0_3, .slice A0_4 l0_4.length c0_4, .slice A0_5 l0_5.length c0_5]] (by rfl) rfl ?hrun2 ?h2
   case hrun2 =>
    have he := enters_of Try.func10 (by kernel_rfl) rfl
    unfold execOp
    simp [resolve, Deferred.ofValue, invoke, Act.eval, he]
   refine (toNet_any (kf := kf) w.heap.size HB.out.size A0_0 c0_0 l0_0 A0_1 c0_1 l0_1 A0_2 c0_2 l0_2 A0_3 c0_3 l0_3 A0_4 c0_4 l0_4 A0_5 c0_5 l0_5 q0 q1 q2 q3 q4 q5 FA.out.now.2.1 hc0_0 FA.out.now.2.2.1 hc0_1 FA.out.now.2.2.2.1 hc0_2 FA.out.now.2.2.2.2.1 hc0_3 FA.out.now.2.2.2.2.2.1 hc0_4 FA.out.now.2.2.2.2.2.2.1 hc0_5 hto).mono ?_
   rintro e w11 ⟨A10_0, c10_0, A10_1, c10_1, A10_2, c10_2, A10_3, c10_3, A10_4, c10_4, A10_5, c10_5, rfl, hN_, -, hb⟩
   refine ⟨_, rfl, ?_⟩
   clear hx0 hx1 hx2 hx3 hx4 hx5
   clear hgx0 hgx1 hgx2 hgx3 hgx4 hgx5
   have mFA_ := Aside0.mk (foot_below FA.out hb)
   have mFW_ := Aside0.mk (foot_below FW.out hb)
   have mHS5_ := Aside0.mk (foot_below HS5.out hb)
   have mHG6_ := Aside0.mk (foot_below HG6.out hb)
   have mHX2_ := Aside0.mk (foot_below HX2.out hb)
   have mHR7_ := Aside0.mk (foot_below HR7.out hb)
   have mB_ := Aside0.mk (HB.out.trans (hb.mono HB.out.size))
   have mQ_ := Aside0.mk (Nat.le_trans HQ.out hb.size)
   clear FA FW HS5 HG6 HX2 HR7 HB HQ
   have FA := mFA_
   have FW := mFW_
   have HS5 := mHS5_
   have HG6 := mHG6_
   have HX2 := mHX2_
   have HR7 := mHR7_
   have HB := mB_
   have HQ := mQ_
   clear mFA_ mFW_ mHS5_ mHG6_ mHX2_ mHR7_ mB_ mQ_
   obtain ⟨hx0, hx1, hx2, hx3, hx4, hx5⟩ := box6 FA.out.now.1
   obtain ⟨hgx0, hgx1, hgx2, hgx3, hgx4, hgx5⟩ := box6 HG6.out.now
   clear hb
   have HN10 := Aside0.mk hN_
   clear hN_
   refine hK.out _ _ ⟨hx0, hx1, hx2, hx3, hx4, hx5, hgx0, hgx1, hgx2, hgx3, hgx4, hgx5⟩ (fun hHeld => ?_)
   clear hK K
   refine norm_ (a' := ?_) ?_ ?_
   rotate_left
   ·show Act.put _ (some 58) _ = _
    simp only [Act.put, List.setIfInBounds_toArray, List.set_cons_zero, List.set_cons_succ, i64_w, i32_w]
    rfl
   refine one_ (i := 3) (N := some 59) #[true, true, true, true, false] rfl rfl (one_of HT_.out (by kernel_rfl)) (by decide) (fun K hK => ?_)
   refine call_ 15 #[.agg #[.slice A5_0 q0.length c5_0, .slice A5_1 q1.length c5_1, .slice A5_2 q2.length c5_2, .slice A5_3 q3.length c5_3, .slice A5_4 q4.length c5_4, .slice A5_5 q5.length c5_5], .agg #[.slice A10_0 q0.length c10_0, .slice A10_1 q1.length c10_1, .slice A10_2 q2.length c10_2, .slice A10_3 q3.length c10_3, .slice A10_4 q4.length c10_4, .slice A10_5 q5.length c10_5]] (by rfl) rfl ?hrun3 ?h3
   case hrun3 =>
    have he := enters_of Try.func15 (by kernel_rfl) rfl
    unfold execOp
    simp [resolve, Deferred.ofValue, invoke, Act.eval, he]
   refine (eqNet_any (kf := kf) HS5.out.now HN10.out hen).mono ?_
   rintro e w12 ⟨rfl, hb⟩
   refine ⟨_, rfl, ?_⟩
   clear HN10
   clear hx0 hx1 hx2 hx3 hx4 hx5
   clear hgx0 hgx1 hgx2 hgx3 hgx4 hgx5
   have mFA_ := Aside0.mk (foot_below FA.out hb)
   have mFW_ := Aside0.mk (foot_below FW.out hb)
   have mHS5_ := Aside0.mk (foot_below HS5.out hb)
   have mHG6_ := Aside0.mk (foot_below HG6.out hb)
   have mHX2_ := Aside0.mk (foot_below HX2.out hb)
   have mHR7_ := Aside0.mk (foot_below HR7.out hb)
   have mB_ := Aside0.mk (HB.out.trans (hb.mono HB.out.size))
   have mQ_ := Aside0.mk (Nat.le_trans HQ.out hb.size)
   clear FA FW HS5 HG6 HX2 HR7 HB HQ
   have FA := mFA_
   have FW := mFW_
   have HS5 := mHS5_
   have HG6 := mHG6_
   have HX2 := mHX2_
   have HR7 := mHR7_
   have HB := mB_
   have HQ := mQ_
   clear mFA_ mFW_ mHS5_ mHG6_ mHX2_ mHR7_ mB_ mQ_
   obtain ⟨hx0, hx1, hx2, hx3, hx4, hx5⟩ := box6 FA.out.now.1
   obtain ⟨hgx0, hgx1, hgx2, hgx3, hgx4, hgx5⟩ := box6 HG6.out.now
   clear hb
   refine hK.out _ _ ⟨hx0, hx1, hx2, hx3, hx4, hx5, hgx0, hgx1, hgx2, hgx3, hgx4, hgx5⟩ (fun hHeld => ?_)
   clear hK K
   refine norm_ (a' := ?_) ?_ ?_
   rotate_left
   ·show Act.put _ (some 59) _ = _
    simp only [Act.put, List.setIfInBounds_toArray, List.set_cons_zero, List.set_cons_succ, i64_w, i32_w]
    rfl
   refine pure_ (i := 4) (N := some 60) (v := ?_) (a' := ?_) #[true, true, true, true, true] rfl rfl (any_of HT_.out (by kernel_rfl)) (fun _ _ _ h => h) (Or.inl ⟨by rfl, ?_⟩) ?_ ?_
   rotate_left
   ·intro w'
    go_simp
    with_reducible rfl
   rotate_left
   ·simp only [Act.put, List.setIfInBounds_toArray, List.set_cons_zero, List.set_cons_succ, i64_w, i32_w]
    rfl
   refine done_ (done_of HT_.out (by kernel_rfl)) ?_
   clear hHeld HT_ HW_
   go_upto_region 18 with (first
    | (go_at_call 12; (with_reducible refine (laws_toBoolS.calls kf A2 c2 l2 t2 _ FA.out.now.2.2.2.2.2.2.2 hc2 ht2).mono ?_); rintro e wy2 ⟨v13, rfl, hR13, hb⟩; clear hx0 hx1 hx2 hx3 hx4 hx5; clear hgx0 hgx1 hgx2 hgx3 hgx4 hgx5; have mFA_ := Aside0.mk (foot_below FA.out hb); have mFW_ := Aside0.mk (foot_below FW.out hb); have mHS5_ := Aside0.mk (foot_below HS5.out hb); have mHG6_ := Aside0.mk (foot_below HG6.out hb); have mHX2_ := Aside0.mk (foot_below HX2.out hb); have mHR7_ := Aside0.mk (foot_below HR7.out hb); have mB_ := Aside0.mk (HB.out.trans (hb.mono HB.out.size)); have mQ_ := Aside0.mk (Nat.le_trans HQ.out hb.size); clear FA FW HS5 HG6 HX2 HR7 HB HQ; have FA := mFA_; have FW := mFW_; have HS5 := mHS5_; have HG6 := mHG6_; have HX2 := mHX2_; have HR7 := mHR7_; have HB := mB_; have HQ := mQ_; clear mFA_ mFW_ mHS5_ mHG6_ mHX2_ mHR7_ mB_ mQ_; obtain ⟨hx0, hx1, hx2, hx3, hx4, hx5⟩ := box6 FA.out.now.1; obtain ⟨hgx0, hgx1, hgx2, hgx3, hgx4, hgx5⟩ := box6 HG6.out.now; clear hb; obtain ⟨A13, c13, ev_, hl13, hC13⟩ := Kd.R_reads hR13; clear hR13; subst ev_)
    | (go_at_call 17; (with_reducible refine (laws_eqBoolS.calls kf A6_2 c6_2 t2 A13 c13 t2 true _ (Kd.R_reads' HX2.out.now).2.2 (Kd.R_reads' HX2.out.now).2.1 hC13 hl13 he2).mono ?_); rintro e wz2 ⟨rfl, hd⟩; clear hC13 hl13; have hb := drawn_below hd; clear hd; clear hx0 hx1 hx2 hx3 hx4 hx5; clear hgx0 hgx1 hgx2 hgx3 hgx4 hgx5; have mFA_ := Aside0.mk (foot_below FA.out hb); have mFW_ := Aside0.mk (foot_below FW.out hb); have mHS5_ := Aside0.mk (foot_below HS5.out hb); have mHG6_ := Aside0.mk (foot_below HG6.out hb); have mHX2_ := Aside0.mk (foot_below HX2.out hb); have mHR7_ := Aside0.mk (foot_below HR7.out hb); have mB_ := Aside0.mk (HB.out.trans (hb.mono HB.out.size)); have mQ_ := Aside0.mk (Nat.le_trans HQ.out hb.size); clear FA FW HS5 HG6 HX2 HR7 HB HQ; have FA := mFA_; have FW := mFW_; have HS5 := mHS5_; have HG6 := mHG6_; have HX2 := mHX2_; have HR7 := mHR7_; have HB := mB_; have HQ := mQ_; clear mFA_ mFW_ mHS5_ mHG6_ mHX2_ mHR7_ mB_ mQ_; obtain ⟨hx0, hx1, hx2, hx3, hx4, hx5⟩ := box6 FA.out.now.1; obtain ⟨hgx0, hgx1, hgx2, hgx3, hgx4, hgx5⟩ := box6 HG6.out.now; clear hb))
   go_upto_region 19 with (go_at_call 18; (with_reducible refine (markNet_any (kf := kf) HB.out HS5.out.now HAP.out hmn).mono ?_); rintro e w15 ⟨rfl, hbB, hbK⟩; clear hx0 hx1 hx2 hx3 hx4 hx5; clear hgx0 hgx1 hgx2 hgx3 hgx4 hgx5; clear HG6 HS5; have mFA_ := Aside0.mk (foot_kept FA.out hbK (fun k_ hk_ hs_ => by have g1_ : k_ < W1.heap.size := hk_; have g2_ : w4.heap.size ≤ k_ ∧ k_ < w5.heap.size := hs_; have := HLE.out; have := HL5.out; have := H6.out; have := HZ2.out; omega)); have mFW_ := Aside0.mk (foot_kept FW.out hbK (fun k_ hk_ hs_ => by have g1_ : k_ < w4.heap.size := hk_; have g2_ : w4.heap.size ≤ k_ ∧ k_ < w5.heap.size := hs_; have := HLE.out; have := HL5.out; have := H6.out; have := HZ2.out; omega)); have mHX2_ := Aside0.mk (foot_kept HX2.out hbK (fun k_ hk_ hs_ => by have g1_ : w6.heap.size ≤ k_ ∧ k_ < wx2.heap.size := hk_; have g2_ : w4.heap.size ≤ k_ ∧ k_ < w5.heap.size := hs_; have := HLE.out; have := HL5.out; have := H6.out; have := HZ2.out; omega)); have mHR7_ := Aside0.mk (foot_kept HR7.out hbK (fun k_ hk_ hs_ => by have g1_ : wx2.heap.size ≤ k_ := hk_; have g2_ : w4.heap.size ≤ k_ ∧ k_ < w5.heap.size := hs_; have := HLE.out; have := HL5.out; have := H6.out; have := HZ2.out; omega)); have mB_ := Aside0.mk hbB; have mQ_ := Aside0.mk (Nat.le_trans HQ.out hbK.1); clear FA FW HX2 HR7 HB HQ; have FA := mFA_; have FW := mFW_; have HX2 := mHX2_; have HR7 := mHR7_; have HB := mB_; have HQ := mQ_; clear mFA_ mFW_ mHX2_ mHR7_ mB_ mQ_; obtain ⟨hx0, hx1, hx2, hx3, hx4, hx5⟩ := box6 FA.out.now.1; clear hbK hbB)
   go_upto_region 20 with (go_at_call 20; (with_reducible refine (laws_markBoolS.calls kf (fun k_ => w6.heap.size ≤ k_ ∧ k_ < wx2.heap.size) (.slice A6_2 t2.length c6_2) t2 m0 m1 tm2 w _ HB.out HX2.out.now hm2).mono ?_); rintro e wm2 ⟨rfl, hR16, hbB, hbK⟩; clear hx0 hx1 hx2 hx3 hx4 hx5; clear HX2 hR16; have mFA_ := Aside0.mk (foot_kept FA.out hbK (fun k_ hk_ hs_ => by have g1_ : k_ < W1.heap.size := hk_; have g2_ : w6.heap.size ≤ k_ ∧ k_ < wx2.heap.size := hs_; have := HLE.out; have := HL5.out; have := H6.out; have := HZ2.out; omega)); have mFW_ := Aside0.mk (foot_kept FW.out hbK (fun k_ hk_ hs_ => by have g1_ : k_ < w4.heap.size := hk_; have g2_ : w6.heap.size ≤ k_ ∧ k_ < wx2.heap.size := hs_; have := HLE.out; have := HL5.out; have := H6.out; have := HZ2.out; omega)); have mHR7_ := Aside0.mk (foot_kept HR7.out hbK (fun k_ hk_ hs_ => by have g1_ : wx2.heap.size ≤ k_ := hk_; have g2_ : w6.heap.size ≤ k_ ∧ k_ < wx2.heap.size := hs_; have := HLE.out; have := HL5.out; have := H6.out; have := HZ2.out; omega)); have mB_ := Aside0.mk hbB; have mQ_ := Aside0.mk (Nat.le_trans HQ.out hbK.1); clear FA FW HR7 HB HQ; have FA := mFA_; have FW := mFW_; have HR7 := mHR7_; have HB := mB_; have HQ := mQ_; clear mFA_ mFW_ mHR7_ mB_ mQ_; obtain ⟨hx0, hx1, hx2, hx3, hx4, hx5⟩ := box6 FA.out.now.1; clear hbK hbB)
   go_upto_region 23 with (go_at_call 16; (with_reducible refine (laws_eqIntS.calls kf A7 c7 s1 A4 c4 s1 true _ (Kd.R_reads' HR7.out.now).2.2 (Kd.R_reads' HR7.out.now).2.1 (Kd.R_reads' FW.out.now).2.2 (Kd.R_reads' FW.out.now).2.1 heb).mono ?_); rintro e w17 ⟨rfl, hd⟩; have hb := drawn_below hd; clear hd; clear hx0 hx1 hx2 hx3 hx4 hx5; have mFA_ := Aside0.mk (foot_below FA.out hb); have mFW_ := Aside0.mk (foot_below FW.out hb); have mHR7_ := Aside0.mk (foot_below HR7.out hb); have mB_ := Aside0.mk (HB.out.trans (hb.mono HB.out.size)); have mQ_ := Aside0.mk (Nat.le_trans HQ.out hb.size); clear FA FW HR7 HB HQ; have FA := mFA_; have FW := mFW_; have HR7 := mHR7_; have HB := mB_; have HQ := mQ_; clear mFA_ mFW_ mHR7_ mB_ mQ_; obtain ⟨hx0, hx1, hx2, hx3, hx4, hx5⟩ := box6 FA.out.now.1; clear hb)
   go_upto_region 25 with (go_at_call 19; (with_reducible refine (laws_markIntS.calls kf (fun k_ => wx2.heap.size ≤ k_) (.slice A7 s1.length c7) s1 1 hh G w _ HB.out HR7.out.now hmg).mono ?_); rintro e w18 ⟨rfl, hR18, hbB, hbK⟩; clear hx0 hx1 hx2 hx3 hx4 hx5; clear HR7; have mFA_ := Aside0.mk (foot_kept FA.out hbK (fun k_ hk_ hs_ => by have g1_ : k_ < W1.heap.size := hk_; have g2_ : wx2.heap.size ≤ k_ := hs_; have := HLE.out; have := HL5.out; have := H6.out; have := HZ2.out; omega)); have mFW_ := Aside0.mk (foot_kept FW.out hbK (fun k_ hk_ hs_ => by have g1_ : k_ < w4.heap.size := hk_; have g2_ : wx2.heap.size ≤ k_ := hs_; have := HLE.out; have := HL5.out; have := H6.out; have := HZ2.out; omega)); have mB_ := Aside0.mk hbB; have mQ_ := Aside0.mk (Nat.le_trans HQ.out hbK.1); clear FA FW HB HQ; have FA := mFA_; have FW := mFW_; have HB := mB_; have HQ := mQ_; clear mFA_ mFW_ mB_ mQ_; obtain ⟨hx0, hx1, hx2, hx3, hx4, hx5⟩ := box6 FA.out.now.1; have HR14 := Aside0.mk (foot_R (Kd.R_mono (ok' := fun _ => True) hR18 (fun _ _ => trivial))); clear hbK hbB hR18)
   go_upto_region 30 with (go_at_call 27; (with_reducible refine (held_at kf A7 c7 G s1.length hGl 1 hh _ (Kd.R_reads' HR14.out.now).2.2 (Kd.R_reads' HR14.out.now).2.1 hhb).mono ?_); rintro e w19 ⟨rfl, hd⟩; have hb := drawn_below hd; clear hd; clear hx0 hx1 hx2 hx3 hx4 hx5; have mFA_ := Aside0.mk (foot_below FA.out hb); have mFW_ := Aside0.mk (foot_below FW.out hb); have mHR14_ := Aside0.mk (foot_below HR14.out hb); have mB_ := Aside0.mk (HB.out.trans (hb.mono HB.out.size)); have mQ_ := Aside0.mk (Nat.le_trans HQ.out hb.size); clear FA FW HR14 HB HQ; have FA := mFA_; have FW := mFW_; have HR14 := mHR14_; have HB := mB_; have HQ := mQ_; clear mFA_ mFW_ mHR14_ mB_ mQ_; obtain ⟨hx0, hx1, hx2, hx3, hx4, hx5⟩ := box6 FA.out.now.1; clear hb)
   go_wp2_with (first
    | (go_at_call 10; (with_reducible refine (toNet_any (kf := kf) w.heap.size HB.out.size A0_0 c0_0 l0_0 A0_1 c0_1 l0_1 A0_2 c0_2 l0_2 A0_3 c0_3 l0_3 A0_4 c0_4 l0_4 A0_5 c0_5 l0_5 q0 q1 q2 q3 q4 q5 FA.out.now.2.1 hc0_0 FA.out.now.2.2.1 hc0_1 FA.out.now.2.2.2.1 hc0_2 FA.out.now.2.2.2.2.1 hc0_3 FA.out.now.2.2.2.2.2.1 hc0_4 FA.out.now.2.2.2.2.2.2.1 hc0_5 hto).mono ?_); rintro e w21a ⟨A20_0, c20_0, A20_1, c20_1, A20_2, c20_2, A20_3, c20_3, A20_4, c20_4, A20_5, c20_5, rfl, hN_, -, hb⟩; clear hx0 hx1 hx2 hx3 hx4 hx5; have mFA_ := Aside0.mk (foot_below FA.out hb); have mFW_ := Aside0.mk (foot_below FW.out hb); have mHR14_ := Aside0.mk (foot_below HR14.out hb); have mB_ := Aside0.mk (HB.out.trans (hb.mono HB.out.size)); have mQ_ := Aside0.mk (Nat.le_trans HQ.out hb.size); clear FA FW HR14 HB HQ; have FA := mFA_; have FW := mFW_; have HR14 := mHR14_; have HB := mB_; have HQ := mQ_; clear mFA_ mFW_ mHR14_ mB_ mQ_; obtain ⟨hx0, hx1, hx2, hx3, hx4, hx5⟩ := box6 FA.out.now.1; clear hb; have HN20 := Aside0.mk (NP.foot hN_); clear hN_)
    | (go_at_call 12; (with_reducible refine (laws_toBoolS.calls kf A2 c2 l2 t2 _ FA.out.now.2.2.2.2.2.2.2 hc2 ht2).mono ?_); rintro e w21r2 ⟨v3, rfl, hR_, hb⟩; clear hx0 hx1 hx2 hx3 hx4 hx5; have mFA_ := Aside0.mk (foot_below FA.out hb); have mFW_ := Aside0.mk (foot_below FW.out hb); have mHR14_ := Aside0.mk (foot_below HR14.out hb); have mHN20_ := Aside0.mk (foot_below HN20.out hb); have mB_ := Aside0.mk (HB.out.trans (hb.mono HB.out.size)); have mQ_ := Aside0.mk (Nat.le_trans HQ.out hb.size); clear FA FW HR14 HN20 HB HQ; have FA := mFA_; have FW := mFW_; have HR14 := mHR14_; have HN20 := mHN20_; have HB := mB_; have HQ := mQ_; clear mFA_ mFW_ mHR14_ mHN20_ mB_ mQ_; obtain ⟨hx0, hx1, hx2, hx3, hx4, hx5⟩ := box6 FA.out.now.1; clear hb; obtain ⟨A20_r2, c20_r2, ev_⟩ := Kd.R_slice hR_; subst ev_; have HR20_2 := Aside0.mk (foot_R hR_); clear hR_)
    | (go_at_call 26; (with_reducible refine (impl_Neighbours_any (kf := kf) HN20.out.now (Kd.R_reads' HR20_2.out.now).2.2 (Kd.R_reads' HR20_2.out.now).2.1 him).mono ?_); rintro e w22 ⟨⟨v18, rfl, hR18⟩, hb⟩; have HB3 := HB; clear HN20 HR20_2; clear hx0 hx1 hx2 hx3 hx4 hx5; have mFA_ := Aside0.mk (foot_below FA.out hb); have mFW_ := Aside0.mk (foot_below FW.out hb); have mHR14_ := Aside0.mk (foot_below HR14.out hb); have mB_ := Aside0.mk (HB.out.trans (hb.mono HB.out.size)); have mQ_ := Aside0.mk (Nat.le_trans HQ.out hb.size); clear FA FW HR14 HB HQ; have FA := mFA_; have FW := mFW_; have HR14 := mHR14_; have HB := mB_; have HQ := mQ_; clear mFA_ mFW_ mHR14_ mB_ mQ_; obtain ⟨hx0, hx1, hx2, hx3, hx4, hx5⟩ := box6 FA.out.now.1; clear hb; obtain ⟨A18, c18, ev_, hl18, hC18⟩ := Kd.R_reads hR18; clear hR18; subst ev_)
    | (go_at_call 16; (with_reducible refine (laws_eqIntS.calls kf A18 c18 s1 A4 c4 s1 true _ hC18 hl18 (Kd.R_reads' FW.out.now).2.2 (Kd.R_reads' FW.out.now).2.1 heb).mono ?_); rintro e w23 ⟨rfl, hd⟩; clear hC18 hl18; have hb := drawn_below hd; clear hd; clear hx0 hx1 hx2 hx3 hx4 hx5; have mFA_ := Aside0.mk (foot_below FA.out hb); have mFW_ := Aside0.mk (foot_below FW.out hb); have mHR14_ := Aside0.mk (foot_below HR14.out hb); have mB_ := Aside0.mk (HB.out.trans (hb.mono HB.out.size)); have mQ_ := Aside0.mk (Nat.le_trans HQ.out hb.size); clear FA FW HR14 HB HQ; have FA := mFA_; have FW := mFW_; have HR14 := mHR14_; have HB := mB_; have HQ := mQ_; clear mFA_ mFW_ mHR14_ mB_ mQ_; obtain ⟨hx0, hx1, hx2, hx3, hx4, hx5⟩ := box6 FA.out.now.1; clear hb)
    | (go_at_call 27; (with_reducible refine (held_at kf A7 c7 G s1.length hGl 1 hh _ (Kd.R_reads' HR14.out.now).2.2 (Kd.R_reads' HR14.out.now).2.1 hhb).mono ?_); rintro e w24 ⟨rfl, hd⟩; have hb := drawn_below hd; clear hd; clear hx0 hx1 hx2 hx3 hx4 hx5; have mFA_ := Aside0.mk (foot_below FA.out hb); have mFW_ := Aside0.mk (foot_below FW.out hb); have mHR14_ := Aside0.mk (foot_below HR14.out hb); have mB_ := Aside0.mk (HB.out.trans (hb.mono HB.out.size)); have mQ_ := Aside0.mk (Nat.le_trans HQ.out hb.size); clear FA FW HR14 HB HQ; have FA := mFA_; have FW := mFW_; have HR14 := mHR14_; have HB := mB_; have HQ := mQ_; clear mFA_ mFW_ mHR14_ mB_ mQ_; obtain ⟨hx0, hx1, hx2, hx3, hx4, hx5⟩ := box6 FA.out.now.1; clear hb))
   go_ret
   exact ⟨rfl, HB.out⟩
  ·rw [if_neg hc] at h
   cases h
end Go.Proofs.Ytgibacfgjmdjdaa.PFnExactNeighbours
end
section
set_option linter.unusedVariables false
set_option linter.unusedSimpArgs false
namespace Go.Proofs.Ytgibacfgjmdjdaa.Reads
open Go.RowKit Go.ChangeShapes Go.WideShapes Go.Deep Go.Proofs.YtgibacfgjmdjdaaW.PrintWords
def ReadsN (P : Program) (n : Nat) (t : TypeId) {α : Type} (d : Kd α) (wf : α → Prop) : Prop :=
 ∀ (H : Type) (enc : TypeId × Value → H) (w : World) (base : Nat) (spare : Nat → Bool) (held : Bool) (cs : List Value) (x : DataW H × List MemPlace),
  DataW.trod enc P w base spare held n t cs = some x → (x.1.weights P t).all (· ≤ reachBytes) = true → ∃ a : α, d.K w a cs ∧ wf a
def Reads (P : Program) (t : TypeId) {α : Type} (d : Kd α) (wf : α → Prop) : Prop := ∀ n, ReadsN P n t d wf
theorem wf_i64 {z : Int} (h : (Lit.int .i64 z).wf = true) : -9223372036854775808 ≤ z ∧ z ≤ 9223372036854775807 := by
 simp only [Lit.wf, Bool.and_eq_true, decide_eq_true_eq] at h
 exact h
def WFI (z : Int) : Prop := -9223372036854775808 ≤ z ∧ z ≤ 9223372036854775807
def WFS (s : ByteArray) : Prop := s.size ≤ 140737488351232
def WFL {α : Type} (b : Nat) (wf : α → Prop) (l : List α) : Prop := l.length * b ≤ 140737488351232 ∧ ∀ x ∈ l, wf x
theorem int {P : Program} {n : Nat} {t : TypeId} (ht : P.underlying t = some (.int .i64)) : ReadsN P n t (Kd.int .i64) WFI := by
 intro H enc w base spare held cs x h _
 obtain ⟨z, rfl, rfl, hw⟩ := DataW.trod_int ht h
 exact ⟨z, rfl, wf_i64 hw⟩
theorem bool {P : Program} {n : Nat} {t : TypeId} (ht : P.underlying t = some .bool) : ReadsN P n t Kd.bool (fun _ => True) := by
 intro H enc w base spare held cs x h _
 obtain ⟨z, rfl, rfl⟩ := DataW.trod_bool ht h
 exact ⟨z, rfl, trivial⟩
theorem string {P : Program} {n : Nat} {t : TypeId} (ht : P.underlying t = some .string) : ReadsN P n t Kd.string WFS := by
 intro H enc w base spare held cs x h hr
 obtain ⟨z, rfl, rfl, _⟩ := DataW.trod_string ht h
 refine ⟨z, rfl, ?_⟩
 simp [DataW.weights, reachBytes] at hr
 exact (show z.size ≤ 140737488351232 from of_decide_eq_true hr)
theorem all_of {H : Type} {P : Program} {e : TypeId} : ∀ {l : List (DataW H)}, (DataW.weightsAll P e l).all (· ≤ reachBytes) = true → ∀ d ∈ l, (d.weights P e).all (· ≤ reachBytes) = true
 | [], _, d, hd => by cases hd
 | y :: r, h, d, hd => by
  simp only [DataW.weightsAll, List.all_append, Bool.and_eq_true] at h
  rcases List.mem_cons.1 hd with rfl | hd
  ·exact h.1
  ·exact all_of h.2 d hd
theorem slice {P : Program} {n : Nat} {t e : TypeId} {α : Type} {d : Kd α} {wf : α → Prop} {b : Nat} (ht : P.underlying t = some (.slice e)) (hc : P.cellsOf e = d.sz) (hb : P.bytesOf e = b) (he : ∀ m, m < n → ReadsN P m e d wf) :
  ReadsN P n t (Kd.slice e d) (WFL b wf) := by
 intro H enc w base spare held cs x h hr
 cases n with
 | zero => simp [DataW.trod] at h
 | succ n =>
  have h' := h
  simp only [DataW.trod, ht] at h'
  match cs, h' with
  | [.slice none 0 0], h' =>
   refine ⟨[], ⟨none, 0, rfl, Nat.le_refl _, rfl, by simp, fun h => absurd h (Nat.lt_irrefl 0)⟩, by simp, fun x hx => by cases hx⟩
  | [.slice (some a) len cap], h' =>
   simp only at h'
   split at h'
   ·rename_i hcond
    obtain ⟨elems, hel, h2⟩ := Option.bind_eq_some_iff.1 h'
    obtain ⟨rest, hrest, rfl⟩ := Option.map_eq_some_iff.1 h2
    simp only [DataW.weights, ht, List.all_cons, List.all_append, Bool.and_eq_true, hb, List.length_map, decide_eq_true_eq] at hr
    have hlen : elems.length = len := by simpa using mapM_some_length hel
    have hget : ∀ i, i < len → ∃ y : α, wf y ∧ ∃ c, c.length = d.sz ∧ d.K w y c ∧ ∀ j u, c[j]? = some u → w.cell? (a.add (i * d.sz + j)) = some u := by
     intro i hi
     have h3 := mapM_some_get hel i i (by simp [hi])
     rw [List.getElem?_eq_getElem (by omega)] at h3
     obtain ⟨cs', hcs, htr⟩ := Option.bind_eq_some_iff.1 h3
     obtain ⟨y, hK, hw⟩ := he n (Nat.lt_succ_self n) H enc w base spare held cs' _ htr (all_of hr.2.1 _ (List.mem_map.2 ⟨elems[i]'(by omega), List.getElem_mem _, rfl⟩))
     obtain ⟨_, hcl, hat⟩ := World.cells?_some hcs
     rw [hc] at hcl hat
     refine ⟨y, hw, cs', hcl, hK, fun j u hj => ?_⟩
     have hjl : j < d.sz := by
      rw [← hcl]
      exact (List.getElem?_eq_some_iff.1 hj).1
     rw [← Deep.add_add, hat j hjl, hj]
    rcases Nat.eq_zero_or_pos len with hz | hz
    ·subst hz
     refine ⟨[], ⟨some a, cap, rfl, Nat.zero_le _, rfl, by simp, fun h => absurd h (Nat.lt_irrefl 0)⟩, by simp, fun x hx => by cases hx⟩
    have hinh : Inhabited α := ⟨(hget 0 hz).choose⟩
    obtain ⟨f, hf⟩ := choose_lt hget
    refine ⟨(List.range len).map f, ⟨some a, cap, ?_, ?_, ?_, ?_, ?_⟩, ?_, ?_⟩
    ·simp
    ·simpa using hcond.2.1
    ·simp
    ·have := hcond.2.2
     have := hcond.2.1
     simp [maxLen] at *
     omega
    ·intro _
     refine ⟨a, rfl, fun j p hj => ?_⟩
     have hjl : j < len := by
      have := (List.getElem?_eq_some_iff.1 hj).1
      simpa using this
     simp [hjl] at hj
     subst hj
     obtain ⟨_, c, h1, h2, h3⟩ := hf j hjl
     exact ⟨c, h1, h2, h3⟩
    ·have h4 := hr.1
     simp only [reachBytes] at h4
     have : len * b ≤ (elems.length + rest.length) * b := Nat.mul_le_mul_right _ (by omega)
     simp
     omega
    ·intro y hy
     obtain ⟨i, hi, rfl⟩ := List.mem_map.1 hy
     exact (hf i (by simpa using hi)).1
   ·cases h'
theorem intR {P : Program} {t : TypeId} (ht : P.underlying t = some (.int .i64)) : Reads P t (Kd.int .i64) WFI := fun _ => int ht
theorem boolR {P : Program} {t : TypeId} (ht : P.underlying t = some .bool) : Reads P t Kd.bool (fun _ => True) := fun _ => bool ht
theorem stringR {P : Program} {t : TypeId} (ht : P.underlying t = some .string) : Reads P t Kd.string WFS := fun _ => string ht
theorem sliceR {P : Program} {t e : TypeId} {α : Type} {d : Kd α} {wf : α → Prop} {b : Nat} (ht : P.underlying t = some (.slice e)) (hc : P.cellsOf e = d.sz) (hb : P.bytesOf e = b) (he : Reads P e d wf) : Reads P t (Kd.slice e d) (WFL b wf) :=
 fun _ => slice ht hc hb (fun m _ => he m)
def FieldsN (P : Program) (n : Nat) (fs : List Field) (off : Nat) {α : Type} (d : Kd α) (wf : α → Prop) : Prop :=
 ∀ (H : Type) (enc : TypeId × Value → H) (w : World) (base : Nat) (spare : Nat → Bool) (held : Bool) (cs : List Value) (xs : List (DataW H × List MemPlace)),
  (fs.mapM fun f => DataW.trod enc P w base spare held n f.type ((cs.drop f.offset).take (P.cellsOf f.type))) = some xs →
  (DataW.weightsEach P (fs.map (·.type)) (xs.map (·.1))).all (· ≤ reachBytes) = true → cs.length = off + d.sz → ∃ a : α, d.K w a (cs.drop off) ∧ wf a
theorem last {P : Program} {n : Nat} {f : Field} {off : Nat} {α : Type} {d : Kd α} {wf : α → Prop} (ho : f.offset = off) (hc : P.cellsOf f.type = d.sz) (h : ReadsN P n f.type d wf) : FieldsN P n [f] off d wf := by
 intro H enc w base spare held cs xs hm hr hl
 simp only [List.mapM_cons, List.mapM_nil, Option.bind_eq_bind, Option.bind_eq_some_iff, Option.pure_def, Option.some.injEq] at hm
 obtain ⟨y, hy, _, rfl, rfl⟩ := hm
 rw [ho, hc, List.take_of_length_le (by rw [List.length_drop]; omega)] at hy
 simp only [List.map_cons, List.map_nil, DataW.weightsEach, List.append_nil] at hr
 exact h H enc w base spare held _ _ hy hr
theorem more {P : Program} {n : Nat} {f : Field} {fs : List Field} {off : Nat} {α β : Type} {d : Kd α} {d' : Kd β} {wf : α → Prop} {wf' : β → Prop} (ho : f.offset = off) (hc : P.cellsOf f.type = d.sz)
  (h : ReadsN P n f.type d wf) (h' : FieldsN P n fs (off + d.sz) d' wf') : FieldsN P n (f :: fs) off (Kd.pair d d') (fun x => wf x.1 ∧ wf' x.2) := by
 intro H enc w base spare held cs xs hm hr hl
 simp only [List.mapM_cons, Option.bind_eq_bind, Option.bind_eq_some_iff, Option.pure_def, Option.some.injEq] at hm
 obtain ⟨y, hy, ys, hys, rfl⟩ := hm
 simp only [List.map_cons, DataW.weightsEach, List.all_append, Bool.and_eq_true] at hr
 have hl' : cs.length = off + (d.sz + d'.sz) := hl
 rw [ho, hc] at hy
 obtain ⟨a, hK, hw⟩ := h H enc w base spare held _ _ hy hr.1
 obtain ⟨b, hK', hw'⟩ := h' H enc w base spare held cs ys hys hr.2 (by omega)
 refine ⟨(a, b), ⟨_, _, ?_, hK, hK'⟩, hw, hw'⟩
 have := (List.take_append_drop d.sz (cs.drop off)).symm
 rwa [List.drop_drop] at this
theorem struct {P : Program} {n : Nat} {t : TypeId} {fs : Array Field} {α β : Type} {d : Kd α} {wf : α → Prop} (f : β → α) (g : α → β) (hfg : ∀ a, f (g a) = a) (ht : P.underlying t = some (.struct fs)) (hc : P.cellsOf t = d.sz)
  (h : ∀ m, m < n → FieldsN P m fs.toList 0 d wf) : ReadsN P n t (Kd.iso d f) (fun x => wf (f x)) := by
 intro H enc w base spare held cs x hx hr
 cases n with
 | zero => simp [DataW.trod] at hx
 | succ n =>
  simp only [DataW.trod, ht] at hx
  have hx' : cs.length = P.cellsOf t ∧ ∃ xs, (fs.toList.mapM fun f => DataW.trod enc P w base spare held n f.type ((cs.drop f.offset).take (P.cellsOf f.type))) = some xs ∧ (.agg (xs.map (·.1)), xs.flatMap (·.2)) = x := by
   split at hx <;> simp_all
  obtain ⟨hl, xs, hm, rfl⟩ := hx'
  simp only [DataW.weights, ht] at hr
  obtain ⟨a, hK, hw⟩ := h n (Nat.lt_succ_self n) H enc w base spare held cs xs hm hr (by rw [hl, hc]; omega)
  rw [List.drop_zero] at hK
  exact ⟨g a, by show d.K w (f (g a)) cs; rw [hfg]; exact hK, by show wf (f (g a)); rw [hfg]; exact hw⟩
theorem each_of {H : Type} {P : Program} : ∀ {ts : List TypeId} {ds : List (DataW H)} {j : Nat} {t : TypeId} {d : DataW H}, (DataW.weightsEach P ts ds).all (· ≤ reachBytes) = true → ts[j]? = some t → ds[j]? = some d → (d.weights P t).all (· ≤ reachBytes) = true
 | [], _, _, _, _, _, h, _ => by simp at h
 | _ :: _, [], _, _, _, _, _, h => by simp at h
 | t0 :: ts, d0 :: ds, 0, t, d, h, ht, hd => by
  simp only [List.getElem?_cons_zero, Option.some.injEq] at ht hd
  subst ht hd
  simp only [DataW.weightsEach, List.all_append, Bool.and_eq_true] at h
  exact h.1
 | t0 :: ts, d0 :: ds, j + 1, t, d, h, ht, hd => by
  simp only [DataW.weightsEach, List.all_append, Bool.and_eq_true] at h
  exact each_of (j := j) h.2 (by simpa using ht) (by simpa using hd)
theorem arg {H : Type} {enc : TypeId × Value → H} {P : Program} {W : World} {base : Nat} {spare : Nat → Bool} {held : Bool} {t : TypeId} {v : Value} {d : DataW H} {ps : List MemPlace} {ts : List TypeId} {ds : List (DataW H)} {j : Nat} {α : Type} {k : Kd α} {wf : α → Prop}
  (hk : Reads P t k wf) (hsz : (DataW.weightsEach P ts ds).all (· ≤ reachBytes) = true) (ht : ts[j]? = some t) (hd : ds[j]? = some d) (h : DataW.Trod enc P W base spare held t v d ps) : ∃ a : α, k.K W a v.cells.toList ∧ wf a := by
 obtain ⟨fuel, hf⟩ := h
 exact hk fuel H enc W base spare held _ _ hf (each_of hsz ht hd)
end Go.Proofs.Ytgibacfgjmdjdaa.Reads
end
section
set_option linter.unusedVariables false
namespace Go.Proofs.Ytgibacfgjmdjdaa.PFnExactNeighbours
open Go.RowKit Go.Proofs.YtgibacfgjmdjdaaW.PrintWords Go.Proofs.YtgibacfgjmdjdaaW.PrintLast Go.Proofs.Ytgibacfgjmdjdaa
def wf107 (x : S107) : Prop := Reads.WFI x.f0 ∧ (Reads.WFI x.f1 ∧ (Reads.WFI x.f2))
def wf109 (x : S109) : Prop := Reads.WFI x.f0 ∧ (Reads.WFI x.f1 ∧ (Reads.WFI x.f2 ∧ (Reads.WFI x.f3 ∧ (Reads.WFI x.f4))))
def wf111 (x : S111) : Prop := Reads.WFI x.f0 ∧ (Reads.WFI x.f1 ∧ (Reads.WFI x.f2 ∧ (Reads.WFI x.f3)))
def laws_FnExactNeighbours.Pure : Prop := ∀ (l0_0 : List ByteArray) (l0_1 : List (S107)) (l0_2 : List Int) (l0_3 : List Int) (l0_4 : List (S109)) (l0_5 : List (S111)) (a1 : Int) (l2 : List Bool), (Reads.WFL 16 Reads.WFS) l0_0 → (Reads.WFL 24 wf107) l0_1 → (Reads.WFL 8 Reads.WFI) l0_2 → (Reads.WFL 8 Reads.WFI) l0_3 → (Reads.WFL 40 wf109) l0_4 → (Reads.WFL 32 wf111) l0_5 → Reads.WFI a1 → (Reads.WFL 1 (fun _ : Bool => True)) l2 → ∃ k, laws_FnExactNeighbours.f k l0_0 l0_1 l0_2 l0_3 l0_4 l0_5 a1 l2 = some true
theorem rk107 : Reads.Reads Try.prog 107 k107 wf107 := fun _ => Reads.struct (fun x : S107 => (x.f0, x.f1, x.f2)) (fun p => ⟨p.1, p.2.1, p.2.2⟩) (fun _ => rfl) Try.underlying107 (by kernel_rfl) (fun m _ => (Reads.more rfl (by kernel_rfl) ((Reads.intR Try.underlying3) m) (Reads.more rfl (by kernel_rfl) ((Reads.intR Try.underlying3) m) (Reads.last rfl (by kernel_rfl) ((Reads.intR Try.underlying3) m)))))
theorem rk109 : Reads.Reads Try.prog 109 k109 wf109 := fun _ => Reads.struct (fun x : S109 => (x.f0, x.f1, x.f2, x.f3, x.f4)) (fun p => ⟨p.1, p.2.1, p.2.2.1, p.2.2.2.1, p.2.2.2.2⟩) (fun _ => rfl) Try.underlying109 (by kernel_rfl) (fun m _ => (Reads.more rfl (by kernel_rfl) ((Reads.intR Try.underlying3) m) (Reads.more rfl (by kernel_rfl) ((Reads.intR Try.underlying3) m) (Reads.more rfl (by kernel_rfl) ((Reads.intR Try.underlying3) m) (Reads.more rfl (by kernel_rfl) ((Reads.intR Try.underlying3) m) (Reads.last rfl (by kernel_rfl) ((Reads.intR Try.underlying3) m)))))))
theorem rk111 : Reads.Reads Try.prog 111 k111 wf111 := fun _ => Reads.struct (fun x : S111 => (x.f0, x.f1, x.f2, x.f3)) (fun p => ⟨p.1, p.2.1, p.2.2.1, p.2.2.2⟩) (fun _ => rfl) Try.underlying111 (by kernel_rfl) (fun m _ => (Reads.more rfl (by kernel_rfl) ((Reads.intR Try.underlying3) m) (Reads.more rfl (by kernel_rfl) ((Reads.intR Try.underlying3) m) (Reads.more rfl (by kernel_rfl) ((Reads.intR Try.underlying3) m) (Reads.last rfl (by kernel_rfl) ((Reads.intR Try.underlying3) m))))))
end Go.Proofs.Ytgibacfgjmdjdaa.PFnExactNeighbours
end
section
set_option linter.unusedVariables false
set_option linter.unusedSimpArgs false
namespace Go.Proofs.Ytgibacfgjmdjdaa.Plain
open Go.RowKit Go.Proofs.YtgibacfgjmdjdaaW.PrintWords
section
variable {α β : Type}
theorem ifp {c : Prop} [Decidable c] {f g : Nat → Option α} {r : α} (h : c) (k : Ev f r) : Ev (fun n => if c then f n else g n) r := by
 obtain ⟨K, hK⟩ := k
 exact ⟨K, fun n hn => by simp only [if_pos h]; exact hK n hn⟩
theorem ifn {c : Prop} [Decidable c] {f g : Nat → Option α} {r : α} (h : ¬ c) (k : Ev g r) : Ev (fun n => if c then f n else g n) r := by
 obtain ⟨K, hK⟩ := k
 exact ⟨K, fun n hn => by simp only [if_neg h]; exact hK n hn⟩
theorem bnd {g : Nat → Option α} {f : Nat → α → Option β} {a : α} {r : β} (h : Ev g a) (k : Ev (fun n => f n a) r) : Ev (fun n => (g n).bind (f n)) r := Ev.bind h k
theorem bnd0 {g : Option α} {f : Nat → α → Option β} {a : α} {r : β} (h : g = some a) (k : Ev (fun n => f n a) r) : Ev (fun n => g.bind (f n)) r := by
 obtain ⟨K, hK⟩ := k
 exact ⟨K, fun n hn => by rw [h]; exact hK n hn⟩
theorem stp {g f : Nat → Option α} {r : α} (h : ∀ k, g (k + 1) = f k) (k : Ev f r) : Ev g r := Ev.step h k
theorem evc {g f : Nat → Option α} {r : α} (h : ∀ k, g k = f k) (k : Ev f r) : Ev g r := Ev.congr h k
theorem sm (r : α) : Ev (fun _ => some r) r := Ev.now r
end
theorem up {i n : Int} (h0 : 0 ≤ i) (h : i < n) (hn : n ≤ 9223372036854775807) : wrap64 (i + 1) = i + 1 := by
 unfold wrap64
 omega
theorem w64 {x : Int} (h0 : -9223372036854775808 ≤ x) (h : x ≤ 9223372036854775807) : wrap64 x = x := by
 unfold wrap64
 omega
theorem set_take {α β : Type} (f : α → β) (xs : List α) (out : List β) (i : Nat) (x : α) (hx : xs[i]? = some x) (hl : out.length = xs.length) (h : out.take i = (xs.take i).map f) :
  (out.set i (f x)).take (i + 1) = (xs.take (i + 1)).map f := by
 have hi : i < xs.length := (List.getElem?_eq_some_iff.1 hx).1
 rw [List.take_succ_eq_append_getElem (by simp; omega), List.take_succ_eq_append_getElem hi, List.map_append, List.map_singleton, ← h]
 congr 1
 ·rw [List.take_set]
  apply List.set_eq_of_length_le
  simp
  omega
 ·rw [List.getElem_set_self]
  rw [(List.getElem?_eq_some_iff.1 hx).2]
theorem copy {α β : Type} (f : α → β) (xs : List α) (L : Int → List β → Nat → Option (List β))
  (hend : ∀ out, Ev (L (xs.length : Int) out) out)
  (hstep : ∀ (i : Nat) (out : List β) (r : List β) (x : α), xs[i]? = some x → out.length = xs.length → Ev (L ((i : Int) + 1) (out.set i (f x))) r → Ev (L (i : Int) out) r) :
  ∀ out, out.length = xs.length → Ev (L 0 out) (xs.map f) := by
 have key : ∀ (d i : Nat) (out : List β), i + d = xs.length → out.length = xs.length → out.take i = (xs.take i).map f → Ev (L (i : Int) out) (xs.map f) := by
  intro d
  induction d with
  | zero =>
   intro i out hd hl ht
   have hi : i = xs.length := by omega
   subst hi
   rw [List.take_of_length_le (by omega), List.take_of_length_le (by omega)] at ht
   subst ht
   exact hend _
  | succ d ih =>
   intro i out hd hl ht
   have hi : i < xs.length := by omega
   have hx : xs[i]? = some xs[i] := List.getElem?_eq_getElem hi
   refine hstep i out _ _ hx hl ?_
   have := ih (i + 1) (out.set i (f xs[i])) (by omega) (by simpa using hl) (set_take f xs out i _ hx hl ht)
   rwa [show ((i + 1 : Nat) : Int) = (i : Int) + 1 by omega] at this
 intro out hl
 have := key xs.length 0 out (by omega) hl (by simp)
 simpa using this
theorem same {α : Type} (xs : List α) (L : Int → Nat → Option Bool)
  (hend : Ev (L (xs.length : Int)) true)
  (hstep : ∀ (i : Nat) (x : α), xs[i]? = some x → Ev (L ((i : Int) + 1)) true → Ev (L (i : Int)) true) : Ev (L 0) true := by
 have key : ∀ (d i : Nat), i + d = xs.length → Ev (L (i : Int)) true := by
  intro d
  induction d with
  | zero =>
   intro i hd
   have hi : i = xs.length := by omega
   subst hi
   exact hend
  | succ d ih =>
   intro i hd
   have hi : i < xs.length := by omega
   refine hstep i _ (List.getElem?_eq_getElem hi) ?_
   have := ih (i + 1) (by omega)
   rwa [show ((i + 1 : Nat) : Int) = (i : Int) + 1 by omega] at this
 simpa using key xs.length 0 (by omega)
theorem getD_some {α : Type} {xs : List α} {i : Nat} {x d : α} (h : xs[i]? = some x) : xs.getD ((i : Int).toNat) d = x := by
 simp [List.getD, h]
end Go.Proofs.Ytgibacfgjmdjdaa.Plain
end
section
set_option linter.unusedVariables false
set_option linter.unusedSimpArgs false
namespace Go.Proofs.Ytgibacfgjmdjdaa.Pure
open Go.RowKit Go.Proofs.Ytgibacfgjmdjdaa Go.Proofs.Ytgibacfgjmdjdaa.PFnExactNeighbours Go.Proofs.YtgibacfgjmdjdaaW.PrintWords Go.Proofs.YtgibacfgjmdjdaaW.PrintLast Go.Proofs.Ytgibacfgjmdjdaa.Plain
theorem toI_is (l : List Int) (hl : l.length ≤ 35184372088832) : Ev (fun k => laws_toIntS.f k l) l := by
 refine evc (fun k => laws_toIntS.f.eq_1 ..) (ifp (by omega) (ifp (by omega) ?_))
 have := copy (fun x : Int => x) l (fun i out k => laws_toIntS.l0 k l out i) ?_ ?_ (List.replicate (l.length : Int).toNat 0) (by simp)
 ·simpa using this
 ·intro out
  exact stp (fun k => laws_toIntS.l0.eq_2 ..) (ifn (by omega) (sm _))
 ·intro i out r x hx hlen hk
  have hi : i < l.length := (List.getElem?_eq_some_iff.1 hx).1
  refine stp (fun k => laws_toIntS.l0.eq_2 ..) (ifp (by omega) (ifp (by omega) (ifp (by omega) ?_)))
  rw [show rd l (i : Int) = x from getD_some hx, up (by omega) (by omega : (i : Int) < (l.length : Int)) (by omega), Int.toNat_natCast]
  exact hk
theorem eqI_self (l : List Int) (hl : l.length ≤ 140737488351232) : Ev (fun k => laws_eqIntS.f k l l) true := by
 refine evc (fun k => laws_eqIntS.f.eq_1 ..) (ifp rfl ?_)
 refine same l (fun i k => laws_eqIntS.l0 k l l i) ?_ ?_
 ·exact stp (fun k => laws_eqIntS.l0.eq_2 ..) (ifn (by omega) (sm _))
 ·intro i x hx hk
  have hi : i < l.length := (List.getElem?_eq_some_iff.1 hx).1
  refine stp (fun k => laws_eqIntS.l0.eq_2 ..) (ifp (by omega) (ifp (by omega) (ifp (by omega) (ifp rfl ?_))))
  rw [up (by omega) (by omega : (i : Int) < (l.length : Int)) (by omega)]
  exact hk
theorem toB_is (l : List Bool) (hl : l.length ≤ 281474976710656) : Ev (fun k => laws_toBoolS.f k l) l := by
 refine evc (fun k => laws_toBoolS.f.eq_1 ..) (ifp (by omega) (ifp (by omega) ?_))
 have := copy (fun x : Bool => x) l (fun i out k => laws_toBoolS.l0 k l out i) ?_ ?_ (List.replicate (l.length : Int).toNat false) (by simp)
 ·simpa using this
 ·intro out
  exact stp (fun k => laws_toBoolS.l0.eq_2 ..) (ifn (by omega) (sm _))
 ·intro i out r x hx hlen hk
  have hi : i < l.length := (List.getElem?_eq_some_iff.1 hx).1
  refine stp (fun k => laws_toBoolS.l0.eq_2 ..) (ifp (by omega) (ifp (by omega) (ifp (by omega) ?_)))
  rw [show rdOf false l (i : Int) = x from getD_some hx, up (by omega) (by omega : (i : Int) < (l.length : Int)) (by omega), Int.toNat_natCast]
  exact hk
theorem eqB_self (l : List Bool) (hl : l.length ≤ 281474976710656) : Ev (fun k => laws_eqBoolS.f k l l) true := by
 refine evc (fun k => laws_eqBoolS.f.eq_1 ..) (ifp rfl ?_)
 refine same l (fun i k => laws_eqBoolS.l0 k l l i) ?_ ?_
 ·exact stp (fun k => laws_eqBoolS.l0.eq_2 ..) (ifn (by omega) (sm _))
 ·intro i x hx hk
  have hi : i < l.length := (List.getElem?_eq_some_iff.1 hx).1
  refine stp (fun k => laws_eqBoolS.l0.eq_2 ..) (ifp (by omega) (ifp (by omega) (ifp (by omega) (ifn (by simp) ?_))))
  rw [up (by omega) (by omega : (i : Int) < (l.length : Int)) (by omega)]
  exact hk
theorem markN_is (l : List Int) (k0 : Int) (h0 : 0 ≤ k0) (h1 : k0 + (l.length : Int) ≤ 1000000000000000000) : ∃ m : List Int, m.length = l.length ∧ (∀ j : Nat, j < m.length → rd m (j : Int) = k0 + (j : Int)) ∧ Ev (fun k => laws_markIntS.f k l k0) (k0 + (l.length : Int), m) := by
 have key : ∀ (d i : Nat) (x : List Int), i + d = l.length → x.length = l.length → (∀ j : Nat, j < i → rd x (j : Int) = k0 + (j : Int)) → ∃ m : List Int, m.length = l.length ∧ (∀ j : Nat, j < m.length → rd m (j : Int) = k0 + (j : Int)) ∧ Ev (fun k => laws_markIntS.l0 k x (k0 + (i : Int)) (i : Int)) (k0 + (l.length : Int), m) := by
  intro d
  induction d with
  | zero =>
   intro i x hi hx hj
   obtain rfl : i = l.length := by omega
   exact ⟨x, hx, by rw [hx]; exact hj, stp (fun k => laws_markIntS.l0.eq_2 ..) (ifn (by omega) (sm _))⟩
  | succ d ih =>
   intro i x hi hx hj
   obtain ⟨m, m1, m2, m3⟩ := ih (i + 1) (x.set i (k0 + (i : Int))) (by omega) (by simpa using hx) (by
    intro j hlt
    by_cases e : j = i
    ·subst e
     unfold rd
     simp [List.getD, show j < x.length by omega]
    ·have := hj j (by omega)
     unfold rd at this ⊢
     simp only [Int.toNat_natCast] at this ⊢
     rw [List.getD_eq_getElem?_getD, List.getElem?_set_ne (by omega), ← List.getD_eq_getElem?_getD]
     exact this)
   refine ⟨m, m1, m2, stp (fun k => laws_markIntS.l0.eq_2 ..) (ifp (by omega) (ifp (by omega) ?_))⟩
   rw [up (by omega) (by omega : (i : Int) < (l.length : Int)) (by omega), w64 (by omega) (by omega), Int.toNat_natCast]
   rw [show ((i + 1 : Nat) : Int) = (i : Int) + 1 by omega, ← Int.add_assoc] at m3
   exact m3
 obtain ⟨m, m1, m2, m3⟩ := key l.length 0 l (by omega) rfl (fun j hj => absurd hj (Nat.not_lt_zero _))
 refine ⟨m, m1, m2, evc (fun k => laws_markIntS.f.eq_1 ..) ?_⟩
 simpa using m3
theorem heldN_is (m : List Int) (k0 : Int) (h0 : 0 ≤ k0) (h1 : k0 + (m.length : Int) ≤ 1000000000000000000) (hm : ∀ j : Nat, j < m.length → rd m (j : Int) = k0 + (j : Int)) : Ev (fun k => laws_heldIntS.f k m k0) (k0 + (m.length : Int)) := by
 have key : ∀ (d i : Nat), i + d = m.length → Ev (fun k => laws_heldIntS.l0 k m (k0 + (i : Int)) (i : Int)) (k0 + (m.length : Int)) := by
  intro d
  induction d with
  | zero =>
   intro i hi
   obtain rfl : i = m.length := by omega
   exact stp (fun k => laws_heldIntS.l0.eq_2 ..) (ifn (by omega) (sm _))
  | succ d ih =>
   intro i hi
   have := ih (i + 1) (by omega)
   rw [show ((i + 1 : Nat) : Int) = (i : Int) + 1 by omega, ← Int.add_assoc] at this
   refine stp (fun k => laws_heldIntS.l0.eq_2 ..) (ifp (by omega) (ifp (by omega) (ifp (hm i (by omega)) ?_)))
   rw [up (by omega) (by omega : (i : Int) < (m.length : Int)) (by omega), w64 (x := k0 + (i : Int) + 1) (by omega) (by omega)]
   exact this
 have := key m.length 0 (by omega)
 refine evc (fun k => laws_heldIntS.f.eq_1 ..) ?_
 simpa using this
theorem szStr_is (l : List ByteArray) (hs : ∀ x ∈ l, x.size ≤ 140737488351232) (hl : l.length ≤ 140737488351232) (a : Int) (h0 : 0 ≤ a) (h1 : a ≤ 1048576) : ∃ v, Ev (fun k => laws_szStringS.f k l a) v ∧ v ≤ a := by
 have key : ∀ (d i : Nat) (a : Int), i + d = l.length → 0 ≤ a → a ≤ 1048576 → ∃ v, Ev (fun k => laws_szStringS.l0 k l a (i : Int)) v ∧ v ≤ a := by
  intro d
  induction d with
  | zero =>
   intro i a hd h0 h1
   exact ⟨a, stp (fun k => laws_szStringS.l0.eq_2 ..) (ifn (by omega) (sm _)), Int.le_refl _⟩
  | succ d ih =>
   intro i a hd h0 h1
   have hi : i < l.length := by omega
   have hsz := hs l[i] (List.getElem_mem hi)
   have hr : rdOf ByteArray.empty l (i : Int) = l[i] := getD_some (List.getElem?_eq_getElem hi)
   by_cases hn : a - (l[i].size : Int) < 0
   ·refine ⟨-1, stp (fun k => laws_szStringS.l0.eq_2 ..) (ifp (by omega) (ifp (by omega) (ifp ?_ (sm _)))), by omega⟩
    rw [hr, w64 (by omega) (by omega)]; exact hn
   ·obtain ⟨v, hv, hle⟩ := ih (i + 1) (a - l[i].size) (by omega) (by omega) (by omega)
    refine ⟨v, stp (fun k => laws_szStringS.l0.eq_2 ..) (ifp (by omega) (ifp (by omega) (ifn ?_ ?_))), by omega⟩
    ·rw [hr, w64 (by omega) (by omega)]; exact hn
    ·rw [hr, w64 (by omega) (by omega), up (by omega) (by omega : (i : Int) < (l.length : Int)) (by omega)]
     exact hv
 by_cases hn : a - (l.length : Int) < 0
 ·refine ⟨-1, evc (fun k => laws_szStringS.f.eq_1 ..) (ifp ?_ (sm _)), by omega⟩
  rw [w64 (by omega) (by omega)]; exact hn
 ·obtain ⟨v, hv, hle⟩ := key l.length 0 (a - l.length) (by omega) (by omega) (by omega)
  refine ⟨v, evc (fun k => laws_szStringS.f.eq_1 ..) (ifn ?_ ?_), by omega⟩
  ·rw [w64 (by omega) (by omega)]; exact hn
  ·rw [w64 (by omega) (by omega)]; exact hv
theorem szOf {α : Type} {f : List α → Int → Option Int} (hf : ∀ l a, f l a = if (wrap64 (a - (l.length : Int))) < 0 then (some (-1)) else (some (wrap64 (a - (l.length : Int))))) (l : List α) (hl : l.length ≤ 140737488351232) (a : Int) (h0 : 0 ≤ a) (h1 : a ≤ 1048576) : ∃ v, f l a = some v ∧ v ≤ a := by
 rw [hf, w64 (by omega) (by omega)]
 by_cases hn : a - (l.length : Int) < 0
 ·exact ⟨-1, by rw [if_pos hn], by omega⟩
 ·exact ⟨_, by rw [if_neg hn], by omega⟩
theorem szNet_is (l0 : List ByteArray) (l1 : List S107) (l2 l3 : List Int) (l4 : List S109) (l5 : List S111) (hs : ∀ x ∈ l0, x.size ≤ 140737488351232) (h0 : l0.length ≤ 140737488351232) (h1 : l1.length ≤ 140737488351232) (h2 : l2.length ≤ 140737488351232) (h3 : l3.length ≤ 140737488351232) (h4 : l4.length ≤ 140737488351232) (h5 : l5.length ≤ 140737488351232) : ∃ v, Ev (fun k => laws_szNet.f k l0 l1 l2 l3 l4 l5 1048576) v ∧ v ≤ 1048576 := by
 obtain ⟨v0, e0, b0⟩ := szStr_is l0 hs h0 1048576 (by omega) (by omega)
 by_cases n0 : v0 < 0
 ·exact ⟨-1, evc (fun k => laws_szNet.f.eq_1 ..) (bnd e0 (ifp n0 (sm _))), by omega⟩
 obtain ⟨v1, e1, b1⟩ := szOf (f := laws_szLinkS.f) (fun _ _ => rfl) l1 h1 v0 (by omega) (by omega)
 by_cases n1 : v1 < 0
 ·exact ⟨-1, evc (fun k => laws_szNet.f.eq_1 ..) (bnd e0 (ifn n0 (bnd0 e1 (ifp n1 (sm _))))), by omega⟩
 obtain ⟨v2, e2, b2⟩ := szOf (f := laws_szIntS.f) (fun _ _ => rfl) l2 h2 v1 (by omega) (by omega)
 by_cases n2 : v2 < 0
 ·exact ⟨-1, evc (fun k => laws_szNet.f.eq_1 ..) (bnd e0 (ifn n0 (bnd0 e1 (ifn n1 (bnd0 e2 (ifp n2 (sm _))))))), by omega⟩
 obtain ⟨v3, e3, b3⟩ := szOf (f := laws_szIntS.f) (fun _ _ => rfl) l3 h3 v2 (by omega) (by omega)
 by_cases n3 : v3 < 0
 ·exact ⟨-1, evc (fun k => laws_szNet.f.eq_1 ..) (bnd e0 (ifn n0 (bnd0 e1 (ifn n1 (bnd0 e2 (ifn n2 (bnd0 e3 (ifp n3 (sm _))))))))), by omega⟩
 obtain ⟨v4, e4, b4⟩ := szOf (f := laws_szImportS.f) (fun _ _ => rfl) l4 h4 v3 (by omega) (by omega)
 by_cases n4 : v4 < 0
 ·exact ⟨-1, evc (fun k => laws_szNet.f.eq_1 ..) (bnd e0 (ifn n0 (bnd0 e1 (ifn n1 (bnd0 e2 (ifn n2 (bnd0 e3 (ifn n3 (bnd0 e4 (ifp n4 (sm _))))))))))), by omega⟩
 obtain ⟨v5, e5, b5⟩ := szOf (f := laws_szFilterS.f) (fun _ _ => rfl) l5 h5 v4 (by omega) (by omega)
 by_cases n5 : v5 < 0
 ·exact ⟨-1, evc (fun k => laws_szNet.f.eq_1 ..) (bnd e0 (ifn n0 (bnd0 e1 (ifn n1 (bnd0 e2 (ifn n2 (bnd0 e3 (ifn n3 (bnd0 e4 (ifn n4 (bnd0 e5 (ifp n5 (sm _))))))))))))), by omega⟩
 exact ⟨v5, evc (fun k => laws_szNet.f.eq_1 ..) (bnd e0 (ifn n0 (bnd0 e1 (ifn n1 (bnd0 e2 (ifn n2 (bnd0 e3 (ifn n3 (bnd0 e4 (ifn n4 (bnd0 e5 (ifn n5 (sm _))))))))))))), by omega⟩
theorem toStr_is (l : List ByteArray) (hl : l.length ≤ 8796093021952) : Ev (fun k => laws_toStringS.f k l) l := by
 refine evc (fun k => laws_toStringS.f.eq_1 ..) (ifp (by omega) (ifp (by omega) ?_))
 have := copy (fun x : ByteArray => x) l (fun i out k => laws_toStringS.l0 k l out i) ?_ ?_ (List.replicate (l.length : Int).toNat (⟨#[]⟩ : ByteArray)) (by simp)
 ·simpa using this
 ·intro out
  exact stp (fun k => laws_toStringS.l0.eq_2 ..) (ifn (by omega) (sm _))
 ·intro i out r x hx hlen hk
  have hi : i < l.length := (List.getElem?_eq_some_iff.1 hx).1
  refine stp (fun k => laws_toStringS.l0.eq_2 ..) (ifp (by omega) (ifp (by omega) (ifp (by omega) ?_)))
  rw [show rdOf ByteArray.empty l (i : Int) = x from getD_some hx, up (by omega) (by omega : (i : Int) < (l.length : Int)) (by omega), Int.toNat_natCast]
  exact hk
def cvL (x : S107) : S92 := ⟨x.f0, x.f1, x.f2⟩
def cvI (x : S109) : S95 := ⟨x.f0, x.f1, x.f2, x.f3, x.f4⟩
def cvF (x : S111) : S97 := ⟨x.f0, x.f1, x.f2, x.f3⟩
theorem toLink_is (l : List S107) (hl : l.length ≤ 5864062014634) : Ev (fun k => laws_toLinkS.f k l) (l.map cvL) := by
 refine evc (fun k => laws_toLinkS.f.eq_1 ..) (ifp (by omega) (ifp (by omega) ?_))
 refine copy cvL l (fun i out k => laws_toLinkS.l0 k l out i) ?_ ?_ (List.replicate (l.length : Int).toNat z92) (by simp)
 ·intro out
  exact stp (fun k => laws_toLinkS.l0.eq_2 ..) (ifn (by omega) (sm _))
 ·intro i out r x hx hlen hk
  have hi : i < l.length := (List.getElem?_eq_some_iff.1 hx).1
  refine stp (fun k => laws_toLinkS.l0.eq_2 ..) (ifp (by omega) (ifp (by omega) (bnd0 rfl (ifp (by omega) ?_))))
  rw [show rd_T107 l (i : Int) = x from getD_some hx, up (by omega) (by omega : (i : Int) < (l.length : Int)) (by omega), Int.toNat_natCast]
  exact hk
theorem toImport_is (l : List S109) (hl : l.length ≤ 3518437208780) : Ev (fun k => laws_toImportS.f k l) (l.map cvI) := by
 refine evc (fun k => laws_toImportS.f.eq_1 ..) (ifp (by omega) (ifp (by omega) ?_))
 refine copy cvI l (fun i out k => laws_toImportS.l0 k l out i) ?_ ?_ (List.replicate (l.length : Int).toNat z95) (by simp)
 ·intro out
  exact stp (fun k => laws_toImportS.l0.eq_2 ..) (ifn (by omega) (sm _))
 ·intro i out r x hx hlen hk
  have hi : i < l.length := (List.getElem?_eq_some_iff.1 hx).1
  refine stp (fun k => laws_toImportS.l0.eq_2 ..) (ifp (by omega) (ifp (by omega) (bnd0 rfl (ifp (by omega) ?_))))
  rw [show rd_T109 l (i : Int) = x from getD_some hx, up (by omega) (by omega : (i : Int) < (l.length : Int)) (by omega), Int.toNat_natCast]
  exact hk
theorem toFilter_is (l : List S111) (hl : l.length ≤ 4398046510976) : Ev (fun k => laws_toFilterS.f k l) (l.map cvF) := by
 refine evc (fun k => laws_toFilterS.f.eq_1 ..) (ifp (by omega) (ifp (by omega) ?_))
 refine copy cvF l (fun i out k => laws_toFilterS.l0 k l out i) ?_ ?_ (List.replicate (l.length : Int).toNat z97) (by simp)
 ·intro out
  exact stp (fun k => laws_toFilterS.l0.eq_2 ..) (ifn (by omega) (sm _))
 ·intro i out r x hx hlen hk
  have hi : i < l.length := (List.getElem?_eq_some_iff.1 hx).1
  refine stp (fun k => laws_toFilterS.l0.eq_2 ..) (ifp (by omega) (ifp (by omega) (bnd0 rfl (ifp (by omega) ?_))))
  rw [show rd_T111 l (i : Int) = x from getD_some hx, up (by omega) (by omega : (i : Int) < (l.length : Int)) (by omega), Int.toNat_natCast]
  exact hk
theorem toNet_is (l0 : List ByteArray) (l1 : List S107) (l2 l3 : List Int) (l4 : List S109) (l5 : List S111) (h0 : l0.length ≤ 8796093021952) (h1 : l1.length ≤ 5864062014634) (h2 : l2.length ≤ 17592186043904) (h3 : l3.length ≤ 17592186043904) (h4 : l4.length ≤ 3518437208780) (h5 : l5.length ≤ 4398046510976) : Ev (fun k => laws_toNet.f k l0 l1 l2 l3 l4 l5) (l0, l1.map cvL, l2, l3, l4.map cvI, l5.map cvF) :=
 evc (fun k => laws_toNet.f.eq_1 ..) (bnd (toStr_is l0 h0) (bnd (toLink_is l1 h1) (bnd (toI_is l2 (by omega)) (bnd (toI_is l3 (by omega)) (bnd (toImport_is l4 h4) (bnd (toFilter_is l5 h5) (sm _)))))))
theorem eqStr_self (l : List ByteArray) (hl : l.length ≤ 140737488351232) : Ev (fun k => laws_eqStringS.f k l l) true := by
 refine evc (fun k => laws_eqStringS.f.eq_1 ..) (ifp rfl ?_)
 refine same l (fun i k => laws_eqStringS.l0 k l l i) ?_ ?_
 ·exact stp (fun k => laws_eqStringS.l0.eq_2 ..) (ifn (by omega) (sm _))
 ·intro i x hx hk
  have hi : i < l.length := (List.getElem?_eq_some_iff.1 hx).1
  refine stp (fun k => laws_eqStringS.l0.eq_2 ..) (ifp (by omega) (ifp (by omega) (ifp (by omega) (ifp rfl ?_))))
  rw [up (by omega) (by omega : (i : Int) < (l.length : Int)) (by omega)]
  exact hk
theorem eqLink_self (l : List S92) (hl : l.length ≤ 140737488351232) : Ev (fun k => laws_eqLinkS.f k l l) true := by
 refine evc (fun k => laws_eqLinkS.f.eq_1 ..) (ifp rfl ?_)
 refine same l (fun i k => laws_eqLinkS.l0 k l l i) ?_ ?_
 ·exact stp (fun k => laws_eqLinkS.l0.eq_2 ..) (ifn (by omega) (sm _))
 ·intro i x hx hk
  have hi : i < l.length := (List.getElem?_eq_some_iff.1 hx).1
  refine stp (fun k => laws_eqLinkS.l0.eq_2 ..) (ifp (by omega) (ifp (by omega) (ifp (by omega) (bnd0 (a := true) (by unfold laws_eqLink.f; simp) (ifp rfl ?_)))))
  rw [up (by omega) (by omega : (i : Int) < (l.length : Int)) (by omega)]
  exact hk
theorem eqImport_self (l : List S95) (hl : l.length ≤ 140737488351232) : Ev (fun k => laws_eqImportS.f k l l) true := by
 refine evc (fun k => laws_eqImportS.f.eq_1 ..) (ifp rfl ?_)
 refine same l (fun i k => laws_eqImportS.l0 k l l i) ?_ ?_
 ·exact stp (fun k => laws_eqImportS.l0.eq_2 ..) (ifn (by omega) (sm _))
 ·intro i x hx hk
  have hi : i < l.length := (List.getElem?_eq_some_iff.1 hx).1
  refine stp (fun k => laws_eqImportS.l0.eq_2 ..) (ifp (by omega) (ifp (by omega) (ifp (by omega) (bnd0 (a := true) (by unfold laws_eqImport.f; simp) (ifp rfl ?_)))))
  rw [up (by omega) (by omega : (i : Int) < (l.length : Int)) (by omega)]
  exact hk
theorem eqFilter_self (l : List S97) (hl : l.length ≤ 140737488351232) : Ev (fun k => laws_eqFilterS.f k l l) true := by
 refine evc (fun k => laws_eqFilterS.f.eq_1 ..) (ifp rfl ?_)
 refine same l (fun i k => laws_eqFilterS.l0 k l l i) ?_ ?_
 ·exact stp (fun k => laws_eqFilterS.l0.eq_2 ..) (ifn (by omega) (sm _))
 ·intro i x hx hk
  have hi : i < l.length := (List.getElem?_eq_some_iff.1 hx).1
  refine stp (fun k => laws_eqFilterS.l0.eq_2 ..) (ifp (by omega) (ifp (by omega) (ifp (by omega) (bnd0 (a := true) (by unfold laws_eqFilter.f; simp) (ifp rfl ?_)))))
  rw [up (by omega) (by omega : (i : Int) < (l.length : Int)) (by omega)]
  exact hk
theorem eqNet_self (l0 : List ByteArray) (l1 : List S92) (l2 l3 : List Int) (l4 : List S95) (l5 : List S97) (h0 : l0.length ≤ 140737488351232) (h1 : l1.length ≤ 140737488351232) (h2 : l2.length ≤ 140737488351232) (h3 : l3.length ≤ 140737488351232) (h4 : l4.length ≤ 140737488351232) (h5 : l5.length ≤ 140737488351232) : Ev (fun k => laws_eqNet.f k l0 l1 l2 l3 l4 l5 l0 l1 l2 l3 l4 l5) true :=
 evc (fun k => laws_eqNet.f.eq_1 ..) (bnd (eqStr_self l0 h0) (bnd (eqLink_self l1 h1) (bnd (eqI_self l2 h2) (bnd (eqI_self l3 h3) (bnd (eqImport_self l4 h4) (bnd (eqFilter_self l5 h5) (ifp ⟨rfl, rfl, rfl, rfl, rfl, rfl⟩ (sm _))))))))
theorem findL {α : Type} (xs : List α) (p : α → Bool) (L : Int → Nat → Option Int) (hend : Ev (L (xs.length : Int)) (-1))
  (hstep : ∀ (i : Nat) (x : α), xs[i]? = some x → (p x = true → Ev (L (i : Int)) (i : Int)) ∧ (p x = false → ∀ r, Ev (L ((i : Int) + 1)) r → Ev (L (i : Int)) r)) : Ev (L 0) (idxB p xs 0) := by
 have key : ∀ (d i : Nat), i + d = xs.length → Ev (L (i : Int)) (idxB p (xs.drop i) i) := by
  intro d
  induction d with
  | zero =>
   intro i hd
   obtain rfl : i = xs.length := by omega
   rw [List.drop_length]
   exact hend
  | succ d ih =>
   intro i hd
   have hi : i < xs.length := by omega
   obtain ⟨h1, h2⟩ := hstep i xs[i] (List.getElem?_eq_getElem hi)
   rw [List.drop_eq_getElem_cons hi, idxB]
   cases hp : p xs[i] with
   | true => rw [if_pos rfl]; exact h1 hp
   | false =>
    rw [if_neg Bool.false_ne_true]
    have := ih (i + 1) (by omega)
    exact h2 hp _ (by rwa [show ((i + 1 : Nat) : Int) = (i : Int) + 1 by omega] at this)
 have := key xs.length 0 (by omega)
 rwa [List.drop_zero] at this
theorem link_is (l : List S92) (hl : l.length ≤ 140737488351232) (a b : Int) : Ev (fun k => spec_l06Link.f k l a b) (linkI l a b) := by
 refine evc (fun k => spec_l06Link.f.eq_1 ..) ?_
 refine findL l (joinB a b) (fun i k => spec_l06Link.l0 k l a b i) ?_ ?_
 ·exact stp (fun k => spec_l06Link.l0.eq_2 ..) (ifn (by omega) (sm _))
 ·intro i x hx
  have hi : i < l.length := (List.getElem?_eq_some_iff.1 hx).1
  have hr : rd_T92 l (i : Int) = x := getD_some hx
  have hu := up (i := (i : Int)) (by omega) (by omega : (i : Int) < (l.length : Int)) (by omega)
  constructor
  ·intro hp
   refine stp (fun k => spec_l06Link.l0.eq_2 ..) (ifp (by omega) (ifp (by omega) ?_))
   rw [hr]
   unfold joinB at hp
   by_cases h1 : x.f0 = a
   ·refine ifp h1 ?_
    by_cases h2 : x.f1 = b
    ·exact ifp h2 (sm _)
    ·refine ifn h2 ?_
     by_cases h3 : x.f0 = b
     ·refine ifp h3 ?_
      by_cases h4 : x.f1 = a
      ·exact ifp h4 (sm _)
      ·simp [h2, h4] at hp
     ·simp [h2, h3] at hp
   ·refine ifn h1 ?_
    by_cases h3 : x.f0 = b
    ·refine ifp h3 ?_
     by_cases h4 : x.f1 = a
     ·exact ifp h4 (sm _)
     ·simp [h1, h4] at hp
    ·simp [h1, h3] at hp
  ·intro hp r hk
   refine stp (fun k => spec_l06Link.l0.eq_2 ..) (ifp (by omega) (ifp (by omega) ?_))
   rw [hr, hu]
   unfold joinB at hp
   by_cases h1 : x.f0 = a
   ·refine ifp h1 ?_
    by_cases h2 : x.f1 = b
    ·simp [h1, h2] at hp
    ·refine ifn h2 ?_
     by_cases h3 : x.f0 = b
     ·refine ifp h3 ?_
      by_cases h4 : x.f1 = a
      ·simp [h3, h4] at hp
      ·exact ifn h4 hk
     ·exact ifn h3 hk
   ·refine ifn h1 ?_
    by_cases h3 : x.f0 = b
    ·refine ifp h3 ?_
     by_cases h4 : x.f1 = a
     ·simp [h3, h4] at hp
     ·exact ifn h4 hk
    ·exact ifn h3 hk
def sameS (w y : ByteArray) : Bool := decide (y.toList = w.toList)
theorem place_is (l : List ByteArray) (hl : l.length ≤ 140737488351232) (w : ByteArray) : Ev (fun k => spec_l06Place.f k l w) (idxB (sameS w) l 0) := by
 refine evc (fun k => spec_l06Place.f.eq_1 ..) ?_
 refine findL l (sameS w) (fun i k => spec_l06Place.l0 k l w i) ?_ ?_
 ·exact stp (fun k => spec_l06Place.l0.eq_2 ..) (ifn (by omega) (sm _))
 ·intro i x hx
  have hi : i < l.length := (List.getElem?_eq_some_iff.1 hx).1
  have hr : rdOf ByteArray.empty l (i : Int) = x := getD_some hx
  have hu := up (i := (i : Int)) (by omega) (by omega : (i : Int) < (l.length : Int)) (by omega)
  constructor
  ·intro hp
   refine stp (fun k => spec_l06Place.l0.eq_2 ..) (ifp (by omega) (ifp (by omega) (ifp ?_ (sm _))))
   rw [hr]; exact of_decide_eq_true hp
  ·intro hp r hk
   refine stp (fun k => spec_l06Place.l0.eq_2 ..) (ifp (by omega) (ifp (by omega) (ifn ?_ ?_)))
   ·rw [hr]; exact of_decide_eq_false hp
   ·rw [hu]; exact hk
theorem contains_is (l : List ByteArray) (hl : l.length ≤ 140737488351232) (w : ByteArray) : Ev (fun k => slices_Contains_string_string.f k l w) (decide (idxB (sameS w) l 0 ≥ 0)) := by
 refine evc (fun k => slices_Contains_string_string.f.eq_1 ..) (bnd ?_ (sm _))
 refine evc (fun k => slices_Index_string_string.f.eq_1 ..) ?_
 refine findL l (sameS w) (fun i k => slices_Index_string_string.l0 k l w (l.length : Int) i) ?_ ?_
 ·exact stp (fun k => slices_Index_string_string.l0.eq_2 ..) (ifn (by omega) (sm _))
 ·intro i x hx
  have hi : i < l.length := (List.getElem?_eq_some_iff.1 hx).1
  have hr : rdOf ByteArray.empty l (i : Int) = x := getD_some hx
  have hu := up (i := (i : Int)) (by omega) (by omega : (i : Int) < (l.length : Int)) (by omega)
  constructor
  ·intro hp
   refine stp (fun k => slices_Index_string_string.l0.eq_2 ..) (ifp (by omega) (ifp (by omega) (ifp (by omega) (ifp ?_ (sm _)))))
   rw [hr]; exact (of_decide_eq_true hp).symm
  ·intro hp r hk
   refine stp (fun k => slices_Index_string_string.l0.eq_2 ..) (ifp (by omega) (ifp (by omega) (ifp (by omega) (ifn ?_ ?_))))
   ·rw [hr]; exact fun q => of_decide_eq_false hp q.symm
   ·rw [hu]; exact hk
theorem wrap_up {i : Int} {n : Nat} (h0 : 0 ≤ i) (h : i < (n : Int)) (hn : n ≤ 140737488351232) : wrap64 (i + 1) = i + 1 := by
 unfold wrap64
 omega
def lt (c : Int) : Bool := (decide (97 ≤ c) && decide (c ≤ 122)) || (decide (65 ≤ c) && decide (c ≤ 90)) || (c == 95)
def dg (c : Int) : Bool := decide (48 ≤ c) && decide (c ≤ 57)
theorem letter_is (c : Int) : spec_l00Letter.f c = some (lt c) := by
 unfold spec_l00Letter.f lt
 by_cases h1 : 97 ≤ c <;> by_cases h2 : c ≤ 122 <;> by_cases h3 : 65 ≤ c <;> by_cases h4 : c ≤ 90 <;> simp [h1, h2, h3, h4]
theorem digit_is (c : Int) : spec_l00Digit.f c = some (dg c) := by
 unfold spec_l00Digit.f dg
 by_cases h1 : 48 ≤ c <;> simp [h1]
def allOK (s : ByteArray) : Nat → Int → Bool
 | 0, _ => true
 | d + 1, i => (lt (bt s i) || (decide (i ≠ 0) && dg (bt s i))) && allOK s d (i + 1)
theorem impl_step (k : Nat) (s : ByteArray) (i : Int) (h0 : 0 ≤ i) (h1 : i < (s.size : Int)) :
  impl_NameOK.l0 (k + 1) s (s.size : Int) i = if (lt (bt s i) || (decide (i ≠ 0) && dg (bt s i))) = true then impl_NameOK.l0 k s (s.size : Int) (wrap64 (i + 1)) else some false := by
 simp only [impl_NameOK.l0]
 rw [if_pos h1, if_pos h0, if_pos h1]
 generalize bt s i = c
 unfold lt dg
 by_cases g1 : 97 ≤ c <;> by_cases g2 : c ≤ 122 <;> by_cases g3 : 65 ≤ c <;> by_cases g4 : c ≤ 90 <;> by_cases g5 : c = 95 <;> by_cases g6 : i = 0 <;> by_cases g7 : 48 ≤ c <;> by_cases g8 : c ≤ 57 <;> simp [g1, g2, g3, g4, g5, g6, g7, g8]
theorem impl_loop (s : ByteArray) (hn : s.size ≤ 140737488351232) (d : Nat) : ∀ (k : Nat) (i : Int), 0 ≤ i → (s.size : Int) - i = d → d < k →
  impl_NameOK.l0 k s (s.size : Int) i = some (allOK s d i && decide (1 ≤ s.size) && decide (s.size ≤ 40)) := by
 induction d with
 | zero =>
  intro k i h0 hd hk
  obtain ⟨k, rfl⟩ : ∃ m, k = m + 1 := ⟨k - 1, by omega⟩
  simp only [impl_NameOK.l0]
  rw [if_neg (by omega)]
  simp only [impl_within.f, allOK, Bool.true_and]
  by_cases g1 : 1 ≤ s.size
  ·rw [if_pos (by omega)]; simp only [Option.bind_some, decide_eq_true g1, Bool.true_and]
   by_cases g2 : s.size ≤ 40
   ·rw [decide_eq_true g2, decide_eq_true (by omega)]
   ·rw [decide_eq_false g2, decide_eq_false (by omega)]
  ·rw [if_neg (by omega)]; simp only [Option.bind_some, decide_eq_false g1, Bool.false_and]
 | succ d ih =>
  intro k i h0 hd hk
  obtain ⟨k, rfl⟩ : ∃ m, k = m + 1 := ⟨k - 1, by omega⟩
  rw [impl_step k s i h0 (by omega)]
  simp only [allOK]
  cases h : (lt (bt s i) || (decide (i ≠ 0) && dg (bt s i))) with
  | true => rw [if_pos rfl, wrap_up h0 (by omega) hn, ih k (i + 1) (by omega) (by omega) (by omega)]; simp
  | false => simp
theorem spec_loop (s : ByteArray) (hn : s.size ≤ 140737488351232) (d : Nat) : ∀ (k : Nat) (i : Int), 1 ≤ i → (s.size : Int) - i = d → d < k →
  spec_l00Word.l0 k s i = some (allOK s d i) := by
 induction d with
 | zero =>
  intro k i h0 hd hk
  obtain ⟨k, rfl⟩ : ∃ m, k = m + 1 := ⟨k - 1, by omega⟩
  simp only [spec_l00Word.l0]
  rw [if_neg (by omega)]
  simp only [allOK]
 | succ d ih =>
  intro k i h0 hd hk
  obtain ⟨k, rfl⟩ : ∃ m, k = m + 1 := ⟨k - 1, by omega⟩
  simp only [spec_l00Word.l0, letter_is, digit_is, Option.bind_some, allOK]
  rw [if_pos (by omega), if_pos (by omega), wrap_up (by omega) (by omega) hn, ih k (i + 1) (by omega) (by omega) (by omega), decide_eq_true (by omega : i ≠ 0)]
  cases lt (bt s i) <;> cases dg (bt s i) <;> simp
theorem spec_is (s : ByteArray) (hn : s.size ≤ 140737488351232) (k : Nat) (hk : s.size + 2 < k) :
  spec_NameOK.f k s = some (allOK s s.size 0 && decide (1 ≤ s.size) && decide (s.size ≤ 40)) := by
 obtain ⟨k, rfl⟩ : ∃ m, k = m + 1 := ⟨k - 1, by omega⟩
 unfold spec_NameOK.f spec_l00Word.f
 by_cases g1 : 1 ≤ s.size
 ·rw [if_neg (by omega)]
  by_cases g2 : s.size ≤ 40
  ·rw [if_neg (by omega), if_pos (by omega), letter_is]
   simp only [Option.bind_some, spec_l00Word.j0, decide_eq_true g1, decide_eq_true g2, Bool.and_true]
   rw [spec_loop s hn (s.size - 1) k 1 (by omega) (by omega) (by omega)]
   obtain ⟨m, hm⟩ : ∃ m, s.size = m + 1 := ⟨s.size - 1, by omega⟩
   rw [hm]
   simp only [allOK, Nat.add_sub_cancel]
   cases lt (bt s 0) <;> simp
  ·rw [if_pos (by omega)]
   simp only [Option.bind_some, spec_l00Word.j0, decide_eq_false g2, Bool.and_false]
   rfl
 ·rw [if_pos (by omega)]
  simp only [Option.bind_some, spec_l00Word.j0, decide_eq_false g1, Bool.and_false, Bool.false_and]
  rfl
def nameB (s : ByteArray) : Bool := allOK s s.size 0 && decide (1 ≤ s.size) && decide (s.size ≤ 40)
theorem sname_is (s : ByteArray) (hn : s.size ≤ 140737488351232) : Ev (fun k => spec_NameOK.f k s) (nameB s) := ⟨s.size + 3, fun k hk => spec_is s hn k (by omega)⟩
theorem iname_is (s : ByteArray) (hn : s.size ≤ 140737488351232) : Ev (fun k => impl_NameOK.f k s) (nameB s) := ⟨s.size + 3, fun k hk => by unfold impl_NameOK.f; exact impl_loop s hn s.size k 0 (by omega) (by omega) (by omega)⟩
def nmB (all : List ByteArray) : List ByteArray → Nat → Bool
 | [], _ => true
 | y :: r, i => nameB y && (!(decide (idxB (sameS y) (all.take i) 0 ≥ 0)) && nmB all r (i + 1))
theorem snames_is (all : List ByteArray) (ha : all.length ≤ 140737488351232) : ∀ (l : List ByteArray) (i : Nat), (∀ x ∈ l, x.size ≤ 140737488351232) → Ev (fun k => snamesO k all l i) (nmB all l i)
 | [], i, _ => evc (fun k => snamesO.eq_1 ..) (sm _)
 | y :: r, i, h => by
  refine evc (fun k => snamesO.eq_2 ..) (bnd (sname_is y (h y List.mem_cons_self)) ?_)
  rw [nmB]
  cases nameB y with
  | false => exact ifp rfl (sm _)
  | true =>
   refine ifn (by decide) (bnd (place_is (all.take i) (by rw [List.length_take]; omega) y) ?_)
   cases hq : decide (idxB (sameS y) (all.take i) 0 ≥ 0) with
   | true => exact ifp rfl (sm _)
   | false =>
    rw [Bool.not_false, Bool.true_and, Bool.true_and]
    exact ifn Bool.false_ne_true (snames_is all ha r (i + 1) (fun x hx => h x (List.mem_cons_of_mem _ hx)))
theorem inames_is (all : List ByteArray) (ha : all.length ≤ 140737488351232) : ∀ (l : List ByteArray) (i : Nat), (∀ x ∈ l, x.size ≤ 140737488351232) → Ev (fun k => namesO k all l i) (nmB all l i)
 | [], i, _ => evc (fun k => namesO.eq_1 ..) (sm _)
 | y :: r, i, h => by
  refine evc (fun k => namesO.eq_2 ..) (bnd (iname_is y (h y List.mem_cons_self)) ?_)
  rw [nmB]
  cases nameB y with
  | false => exact ifn Bool.false_ne_true (sm _)
  | true =>
   refine ifp rfl (bnd (contains_is (all.take i) (by rw [List.length_take]; omega) y) ?_)
   cases hq : decide (idxB (sameS y) (all.take i) 0 ≥ 0) with
   | true => exact ifp rfl (sm _)
   | false =>
    rw [Bool.not_false, Bool.true_and, Bool.true_and]
    exact ifn Bool.false_ne_true (inames_is all ha r (i + 1) (fun x hx => h x (List.mem_cons_of_mem _ hx)))
def risB (n : Nat) (l : List Int) : Nat → Nat → Bool
 | 0, _ => true
 | d + 1, i => (inB (l.getD i 0) 0 ((n : Int) - 1) && !(decide (i > 0) && decide (l.getD (i - 1) 0 ≥ l.getD i 0))) && risB n l d (i + 1)
theorem lin_is (a lo hi : Int) : spec_l01In.f a lo hi = some (inB a lo hi) := sin_is a lo hi
theorem rising_is (n : Nat) (hn : 1 ≤ n) (hn4 : n ≤ 4) (l : List Int) (hl : l.length ≤ 140737488351232) : Ev (fun k => spec_l06Rising.f k l (n : Int)) (risB n l l.length 0) := by
 refine evc (fun k => spec_l06Rising.f.eq_1 ..) ?_
 have key : ∀ (d i : Nat), i + d = l.length → Ev (fun k => spec_l06Rising.l0 k l (n : Int) (i : Int)) (risB n l d i) := by
  intro d
  induction d with
  | zero => intro i hd; exact stp (fun k => spec_l06Rising.l0.eq_2 ..) (ifn (by omega) (sm _))
  | succ d ih =>
   intro i hd
   have hr : rd l (i : Int) = l.getD i 0 := by unfold rd; rw [Int.toNat_natCast]
   have hnx := ih (i + 1) (by omega)
   rw [show ((i + 1 : Nat) : Int) = (i : Int) + 1 by omega] at hnx
   refine stp (fun k => spec_l06Rising.l0.eq_2 ..) (ifp (by omega) (ifp (by omega) ?_))
   rw [hr, w64 (x := (n : Int) - 1) (by omega) (by omega), up (i := (i : Int)) (by omega) (by omega : (i : Int) < (l.length : Int)) (by omega), risB]
   refine bnd0 (lin_is _ _ _) ?_
   cases inB (l.getD i 0) 0 ((n : Int) - 1) with
   | false => exact ifn Bool.false_ne_true (sm _)
   | true =>
    refine ifp rfl ?_
    rw [Bool.true_and]
    by_cases h0 : i > 0
    ·have hr1 : rd l (wrap64 ((i : Int) - 1)) = l.getD (i - 1) 0 := by rw [w64 (by omega) (by omega)]; unfold rd; rw [show ((i : Int) - 1).toNat = i - 1 by omega]
     refine ifp (by omega) (ifp (by rw [w64 (by omega) (by omega)]; omega) (ifp (by rw [w64 (by omega) (by omega)]; omega) ?_))
     rw [hr1, decide_eq_true h0, Bool.true_and]
     by_cases h1 : l.getD (i - 1) 0 ≥ l.getD i 0
     ·rw [decide_eq_true h1]; exact ifp h1 (sm _)
     ·rw [decide_eq_false h1]; exact ifn h1 hnx
    ·rw [decide_eq_false h0]; exact ifn (by omega) hnx
 have := key l.length 0 (by omega)
 exact this
theorem routers_is (l0 : List ByteArray) (l1 : List S92) (l2 l3 : List Int) (l4 : List S95) (l5 : List S97) (hn : 1 ≤ l0.length) (hn4 : l0.length ≤ 4) (l : List Int) (hl : l.length ≤ 140737488351232) : Ev (fun k => impl_areRouters.f k l0 l1 l2 l3 l4 l5 l) (risB l0.length l l.length 0) := by
 refine evc (fun k => impl_areRouters.f.eq_1 ..) ?_
 have key : ∀ (d i : Nat), i + d = l.length → Ev (fun k => impl_areRouters.l0 k l l (l.length : Int) (i : Int) l0 l1 l2 l3 l4 l5) (risB l0.length l d i) := by
  intro d
  induction d with
  | zero => intro i hd; exact stp (fun k => impl_areRouters.l0.eq_2 ..) (ifn (by omega) (sm _))
  | succ d ih =>
   intro i hd
   have hr : rd l (i : Int) = l.getD i 0 := by unfold rd; rw [Int.toNat_natCast]
   have hnx := ih (i + 1) (by omega)
   rw [show ((i + 1 : Nat) : Int) = (i : Int) + 1 by omega] at hnx
   refine stp (fun k => impl_areRouters.l0.eq_2 ..) (ifp (by omega) (ifp (by omega) (ifp (by omega) ?_)))
   rw [hr, up (i := (i : Int)) (by omega) (by omega : (i : Int) < (l.length : Int)) (by omega), risB]
   refine bnd0 (a := inB (l.getD i 0) 0 ((l0.length : Int) - 1)) ?_ ?_
   ·unfold impl_isRouter.f
    rw [w64 (x := (l0.length : Int) - 1) (by omega) (by omega), within_is]
    rfl
   cases inB (l.getD i 0) 0 ((l0.length : Int) - 1) with
   | false => exact ifn Bool.false_ne_true (sm _)
   | true =>
    refine ifp rfl ?_
    rw [Bool.true_and]
    by_cases h0 : i > 0
    ·have hr1 : rd l (wrap64 ((i : Int) - 1)) = l.getD (i - 1) 0 := by rw [w64 (by omega) (by omega)]; unfold rd; rw [show ((i : Int) - 1).toNat = i - 1 by omega]
     refine ifp (by omega) (ifp (by rw [w64 (by omega) (by omega)]; omega) (ifp (by rw [w64 (by omega) (by omega)]; omega) ?_))
     rw [hr1, decide_eq_true h0, Bool.true_and]
     by_cases h1 : l.getD (i - 1) 0 ≥ l.getD i 0
     ·rw [decide_eq_true h1]; exact ifp h1 (sm _)
     ·rw [decide_eq_false h1]; exact ifn h1 hnx
    ·rw [decide_eq_false h0]; exact ifn (by omega) hnx
 exact key l.length 0 (by omega)
theorem idxB_nonneg {α : Type} (p : α → Bool) : ∀ (l : List α) (i : Nat), (l.any p = true → (i : Int) ≤ idxB p l i ∧ idxB p l i < i + l.length) ∧ (l.any p = false → idxB p l i = -1)
 | [], i => ⟨fun h => by simp at h, fun _ => rfl⟩
 | x :: r, i => by
  obtain ⟨h1, h2⟩ := idxB_nonneg p r (i + 1)
  rw [List.any_cons, idxB]
  cases hp : p x with
  | true => exact ⟨fun _ => by rw [if_pos rfl, List.length_cons]; omega, fun h => by cases h⟩
  | false =>
   rw [Bool.false_or, if_neg Bool.false_ne_true, List.length_cons]
   exact ⟨fun h => by have := h1 h; omega, h2⟩
theorem idxB_ge {α : Type} (p : α → Bool) (l : List α) : decide (idxB p l 0 ≥ 0) = l.any p := by
 obtain ⟨h1, h2⟩ := idxB_nonneg p l 0
 cases h : l.any p with
 | true => exact decide_eq_true (by have := h1 h; omega)
 | false => exact decide_eq_false (by rw [h2 h]; omega)
theorem idxB_app {α : Type} (p : α → Bool) (x : α) (r : List α) (hx : p x = true) : ∀ (l : List α) (i : Nat), decide (idxB p (l ++ x :: r) i < ((i + l.length : Nat) : Int)) = l.any p
 | [], i => by
  rw [List.nil_append, idxB, if_pos hx]
  exact decide_eq_false (by simp)
 | y :: l, i => by
  have ih := idxB_app p x r hx l (i + 1)
  rw [List.cons_append, idxB, List.any_cons]
  cases hp : p y with
  | true => rw [if_pos rfl, Bool.true_or, List.length_cons]; exact decide_eq_true (by omega)
  | false =>
   rw [if_neg Bool.false_ne_true, Bool.false_or, ← ih, List.length_cons, show i + (l.length + 1) = i + 1 + l.length by omega]
theorem slinks_is (n : Nat) (all : List S92) (ha : all.length ≤ 140737488351232) : ∀ (l : List S92) (pre : List S92), all = pre ++ l → Ev (fun k => slinksO k n all l pre.length) (linksB n all l pre.length)
 | [], pre, _ => evc (fun k => slinksO.eq_1 ..) (sm _)
 | x :: r, pre, h => by
  refine evc (fun k => slinksO.eq_2 ..) ?_
  have hj : joinB x.f0 x.f1 x = true := by unfold joinB; simp
  have hlt := idxB_app (joinB x.f0 x.f1) x r hj pre 0
  rw [Nat.zero_add, ← h] at hlt
  have htk : all.take pre.length = pre := by rw [h]; simp
  have hge := idxB_ge (joinB x.f0 x.f1) pre
  have hnx := slinks_is n all ha r (pre ++ [x]) (by rw [h]; simp)
  rw [List.length_append, List.length_singleton] at hnx
  rw [linksB]
  unfold linkB linkI
  rw [hlt]
  unfold routerB inB
  cases decide (0 ≤ x.f0) && decide (x.f0 ≤ (n : Int) - 1) with
  | false => exact ifp rfl (sm _)
  | true =>
   cases decide (0 ≤ x.f1) && decide (x.f1 ≤ (n : Int) - 1) with
   | false => exact ifp rfl (sm _)
   | true =>
    cases x.f0 == x.f1 with
    | true => exact ifp rfl (sm _)
    | false =>
     cases decide (1 ≤ x.f2) && decide (x.f2 ≤ 100) with
     | false => 
      rw [show ((true && (true && (!false && (!(pre.any (joinB x.f0 x.f1)) && false)))) && linksB n all r (pre.length + 1)) = false from by simp]
      exact ifp rfl (sm _)
     | true =>
      refine ifn (by decide) (bnd (link_is (all.take pre.length) (by rw [List.length_take]; omega) x.f0 x.f1) ?_)
      rw [htk]
      unfold linkI
      rw [hge]
      cases pre.any (joinB x.f0 x.f1) with
      | true => exact ifp rfl (sm _)
      | false => exact ifn Bool.false_ne_true hnx
theorem simps_is (all : List S92) (ha : all.length ≤ 140737488351232) : ∀ (l : List S95), Ev (fun k => simpsO k all l) (!(l.any (impBad all)))
 | [] => evc (fun k => simpsO.eq_1 ..) (sm _)
 | x :: r => by
  have hnx := simps_is all ha r
  refine evc (fun k => simpsO.eq_2 ..) (bnd (link_is all ha x.f0 x.f1) ?_)
  have hz : (((((decide (linkI all x.f0 x.f1 < 0)) || (!(inB x.f2 0 2))) || (!(inB x.f3 1 4))) || ((x.f3 == 2) && (!(inB x.f4 0 1000)))) || ((x.f3 != 2) && (x.f4 != 0))) = impBad all x := by
   unfold impBad importB
   by_cases h2 : x.f3 = 2
   ·have e1 : (x.f3 == 2) = true := by simpa using h2
    have e2 : (x.f3 != 2) = false := by rw [bne, e1]; rfl
    rw [e1, e2, if_pos h2]
    cases decide (linkI all x.f0 x.f1 < 0) <;> cases inB x.f2 0 2 <;> cases inB x.f3 1 4 <;> cases inB x.f4 0 1000 <;> rfl
   ·have e1 : (x.f3 == 2) = false := by simpa using h2
    have e2 : (x.f3 != 2) = true := by rw [bne, e1]; rfl
    rw [e1, e2, if_neg h2]
    have e3 : (x.f4 != 0) = !(inB x.f4 0 0) := by
     unfold inB
     rw [Bool.eq_iff_iff]
     simp
     omega
    rw [e3]
    cases decide (linkI all x.f0 x.f1 < 0) <;> cases inB x.f2 0 2 <;> cases inB x.f3 1 4 <;> cases inB x.f4 0 0 <;> rfl
  rw [hz, List.any_cons]
  cases impBad all x with
  | true => exact ifp rfl (sm _)
  | false => exact ifn Bool.false_ne_true hnx
theorem sfilts_is (all : List S92) (ha : all.length ≤ 140737488351232) : ∀ (l : List S97), Ev (fun k => sfiltsO k all l) (!(l.any (filtBad all)))
 | [] => evc (fun k => sfiltsO.eq_1 ..) (sm _)
 | x :: r => by
  have hnx := sfilts_is all ha r
  refine evc (fun k => sfiltsO.eq_2 ..) (bnd (link_is all ha x.f0 x.f1) ?_)
  have hz : (((decide (linkI all x.f0 x.f1 < 0)) || (!(inB x.f2 0 15))) || (!(inB x.f3 x.f2 15))) = filtBad all x := by
   unfold filtBad
   have e : (!inB x.f2 0 x.f3 || decide (x.f3 > 15)) = (!(inB x.f2 0 15) || !(inB x.f3 x.f2 15)) := by
    unfold inB
    rw [Bool.eq_iff_iff]
    simp
    omega
   rw [e, Bool.or_assoc]
  rw [hz, List.any_cons]
  cases filtBad all x with
  | true => exact ifp rfl (sm _)
  | false => exact ifn Bool.false_ne_true hnx
def netB (l0 : List ByteArray) (l1 : List S92) (l2 l3 : List Int) (l4 : List S95) (l5 : List S97) : Bool :=
 (inB l0.length 1 4 && (decide (l1.length ≤ 6) && (decide (l4.length ≤ 12) && decide (l5.length ≤ 6)))) && (risB l0.length l2 l2.length 0 && (risB l0.length l3 l3.length 0 && (decide (l3.length ≤ 2) && (nmB l0 l0 0 && (linksB l0.length l1 l1 0 && (!(l4.any (impBad l1)) && !(l5.any (filtBad l1))))))))
section
variable (l0 : List ByteArray) (l1 : List S92) (l2 l3 : List Int) (l4 : List S95) (l5 : List S97) (hs : ∀ x ∈ l0, x.size ≤ 140737488351232) (h2 : l2.length ≤ 140737488351232) (h3 : l3.length ≤ 140737488351232)
theorem netB_no (h : ¬ (inB l0.length 1 4 = true ∧ l1.length ≤ 6 ∧ l4.length ≤ 12 ∧ l5.length ≤ 6)) : netB l0 l1 l2 l3 l4 l5 = false := by
 unfold netB
 rw [Bool.and_eq_false_iff]
 left
 rw [Bool.eq_false_iff]
 intro q
 simp only [Bool.and_eq_true, decide_eq_true_eq] at q
 exact h ⟨q.1, q.2.1, q.2.2.1, q.2.2.2⟩
theorem netB_yes (h : inB l0.length 1 4 = true ∧ l1.length ≤ 6 ∧ l4.length ≤ 12 ∧ l5.length ≤ 6) : netB l0 l1 l2 l3 l4 l5 = (risB l0.length l2 l2.length 0 && (risB l0.length l3 l3.length 0 && (decide (l3.length ≤ 2) && (nmB l0 l0 0 && (linksB l0.length l1 l1 0 && (!(l4.any (impBad l1)) && !(l5.any (filtBad l1)))))))) := by
 unfold netB
 rw [h.1, decide_eq_true h.2.1, decide_eq_true h.2.2.1, decide_eq_true h.2.2.2]
 rfl
include hs h2 h3
theorem specNet_is : Ev (fun k => spec_NetOK.f k l0 l1 l2 l3 l4 l5) (netB l0 l1 l2 l3 l4 l5) := by
 refine evc (fun k => spec_NetOK.f.eq_1 ..) ?_
 by_cases hg : inB l0.length 1 4 = true ∧ l1.length ≤ 6 ∧ l4.length ≤ 12 ∧ l5.length ≤ 6
 ·have hn : 1 ≤ l0.length ∧ l0.length ≤ 4 := by have := hg.1; unfold inB at this; simp at this; omega
  rw [netB_yes l0 l1 l2 l3 l4 l5 hg]
  rw [hg.1, decide_eq_false (show ¬ (l1.length : Int) > 6 by omega), decide_eq_false (show ¬ (l4.length : Int) > 12 by omega), decide_eq_false (show ¬ (l5.length : Int) > 6 by omega)]
  refine ifn (by decide) (bnd (rising_is _ hn.1 hn.2 l2 h2) ?_)
  cases risB l0.length l2 l2.length 0 with
  | false => exact ifp rfl (sm _)
  | true =>
   refine ifn (by decide) (bnd (rising_is _ hn.1 hn.2 l3 h3) ?_)
   cases risB l0.length l3 l3.length 0 with
   | false => exact ifp rfl (sm _)
   | true =>
    by_cases h9 : l3.length ≤ 2
    ·rw [decide_eq_false (show ¬ (l3.length : Int) > 2 by omega)]
     refine ifn (by decide) (bnd (snames_is l0 (by omega) l0 0 hs) ?_)
     rw [decide_eq_true h9]
     cases nmB l0 l0 0 with
     | false => exact ifp rfl (sm _)
     | true =>
      refine ifn (by decide) (bnd (slinks_is l0.length l1 (by omega) l1 [] rfl) ?_)
      rw [List.length_nil]
      cases linksB l0.length l1 l1 0 with
      | false => exact ifp rfl (sm _)
      | true =>
       refine ifn (by decide) (bnd (simps_is l1 (by omega) l4) ?_)
       cases l4.any (impBad l1) with
       | true => exact ifp rfl (sm _)
       | false => exact ifn (by decide) (sfilts_is l1 (by omega) l5)
    ·rw [decide_eq_false h9, decide_eq_true (show (l3.length : Int) > 2 by omega)]
     exact ifp rfl (sm _)
 ·rw [netB_no l0 l1 l2 l3 l4 l5 hg]
  refine ifp ?_ (sm _)
  by_cases i1 : inB l0.length 1 4 = true
  ·by_cases i2 : l1.length ≤ 6
   ·by_cases i3 : l4.length ≤ 12
    ·have i4 : ¬ l5.length ≤ 6 := fun q => hg ⟨i1, i2, i3, q⟩
     rw [decide_eq_true (show (l5.length : Int) > 6 by omega), Bool.or_true]
    ·rw [decide_eq_true (show (l4.length : Int) > 12 by omega), Bool.or_true, Bool.true_or]
   ·rw [decide_eq_true (show (l1.length : Int) > 6 by omega), Bool.or_true, Bool.true_or, Bool.true_or]
  ·rw [Bool.eq_false_iff.2 i1]
   rfl
theorem implNet_is : Ev (fun k => impl_isNet.f k l0 l1 l2 l3 l4 l5) (netB l0 l1 l2 l3 l4 l5) := by
 refine evc (fun k => impl_isNet.f.eq_1 ..) ?_
 by_cases hg : inB l0.length 1 4 = true ∧ l1.length ≤ 6 ∧ l4.length ≤ 12 ∧ l5.length ≤ 6
 ·have hn : 1 ≤ l0.length ∧ l0.length ≤ 4 := by have := hg.1; unfold inB at this; simp at this; omega
  rw [netB_yes l0 l1 l2 l3 l4 l5 hg]
  have hra := routers_is l0 l1 l2 l3 l4 l5 hn.1 hn.2 l2 h2
  have hrb := routers_is l0 l1 l2 l3 l4 l5 hn.1 hn.2 l3 h3
  refine ifp hg (bnd (inames_is l0 (by omega) l0 0 hs) ?_)
  cases nmB l0 l0 0 with
  | false => simp only [Bool.false_and, Bool.and_false]; exact ifn Bool.false_ne_true (sm _)
  | true =>
   refine ifp rfl ?_
   cases linksB l0.length l1 l1 0 with
   | false => simp only [Bool.false_and, Bool.and_false]; exact ifn Bool.false_ne_true (sm _)
   | true =>
    refine ifp rfl ?_
    cases l4.any (impBad l1) with
    | true => simp only [Bool.not_true, Bool.false_and, Bool.and_false]; exact ifp trivial (sm _)
    | false =>
     refine ifn Bool.false_ne_true ?_
     cases l5.any (filtBad l1) with
     | true => simp only [Bool.not_true, Bool.false_and, Bool.and_false]; exact ifp trivial (sm _)
     | false =>
      refine ifn Bool.false_ne_true (bnd hra ?_)
      cases risB l0.length l2 l2.length 0 with
      | false => exact ifn Bool.false_ne_true (sm _)
      | true =>
       refine ifp rfl (bnd hrb ?_)
       simp only [Bool.not_false, Bool.true_and, Bool.and_true]
       exact sm _
 ·rw [netB_no l0 l1 l2 l3 l4 l5 hg]
  exact ifn hg (sm _)
end
theorem markL {α : Type} (c : Nat) (L : List α → Int → Int → Nat → Option (Int × List α)) (hend : ∀ x k, Ev (L x k (x.length : Int)) (k, x))
  (hstep : ∀ (x : List α) (k : Int) (i : Nat), i < x.length → x.length ≤ 140737488351232 → 0 ≤ k → k ≤ 1000000000000000000 → ∃ y : List α, y.length = x.length ∧ ∀ r, Ev (L y (k + (c : Int)) ((i : Int) + 1)) r → Ev (L x k (i : Int)) r) (l : List α) (a : Int) (hl : l.length ≤ 140737488351232) (h0 : 0 ≤ a) (h1 : a + ((c * l.length : Nat) : Int) ≤ 1000000000000000000) : ∃ m, Ev (L l a 0) (a + ((c * l.length : Nat) : Int), m) := by
 have key : ∀ (d i : Nat) (x : List α) (k : Int), i + d = x.length → x.length ≤ 140737488351232 → 0 ≤ k → k + ((c * d : Nat) : Int) ≤ 1000000000000000000 → ∃ m, Ev (L x k (i : Int)) (k + ((c * d : Nat) : Int), m) := by
  intro d
  induction d with
  | zero =>
   intro i x k hi hx h0 h1
   obtain rfl : i = x.length := by omega
   exact ⟨x, by simpa using hend x k⟩
  | succ d ih =>
   intro i x k hi hx h0 h1
   have e : c * (d + 1) = c * d + c := Nat.mul_succ c d
   rw [e] at h1 ⊢
   have hc0 : (0 : Int) ≤ ((c * d : Nat) : Int) := Int.natCast_nonneg _
   have hc1 : (0 : Int) ≤ (c : Int) := Int.natCast_nonneg _
   obtain ⟨y, hy, hs⟩ := hstep x k i (by omega) hx h0 (by omega)
   obtain ⟨m, hm⟩ := ih (i + 1) y (k + (c : Int)) (by omega) (by omega) (by omega) (by omega)
   refine ⟨m, hs _ ?_⟩
   rw [show ((i + 1 : Nat) : Int) = (i : Int) + 1 by omega] at hm
   rw [show k + ((c * d + c : Nat) : Int) = k + (c : Int) + ((c * d : Nat) : Int) by omega]
   exact hm
 obtain ⟨m, hm⟩ := key l.length 0 l a (by omega) hl h0 h1
 exact ⟨m, hm⟩
theorem markText_is (a : Int) (h0 : 0 ≤ a) (h1 : a ≤ 1000000000000000000) : ∃ s, Ev (fun k => laws_markText.f k a) s := by
 have key : ∀ (n : Nat) (x : Int) (s : ByteArray), x.toNat ≤ n → 0 ≤ x → x ≤ 1000000000000000000 → s.size + x.toNat ≤ 2000000000000000000 → ∃ r, Ev (fun k => laws_markText.l0 k x s) r := by
  intro n
  induction n with
  | zero =>
   intro x s hn hx hx1 hs
   exact ⟨_, stp (fun k => laws_markText.l0.eq_2 ..) (ifn (by omega) (ifp (by omega) (sm _)))⟩
  | succ n ih =>
   intro x s hn hx hx1 hs
   by_cases hp : x > 0
   ·have ed : Int.tdiv x 10 = x / 10 := Int.tdiv_eq_ediv_of_nonneg hx
    have ew : wrap64 (Int.tdiv x 10) = x / 10 := by rw [ed]; exact w64 (by omega) (by omega)
    have hsz : (strOfNums [wrap64 (48 + (Int.tmod x 10)) % 256]).size = 1 := rfl
    obtain ⟨r, hr⟩ := ih (x / 10) (strOfNums [wrap64 (48 + (Int.tmod x 10)) % 256] ++ s) (by omega) (by omega) (by omega) (by rw [ByteArray.size_append, hsz]; omega)
    refine ⟨r, stp (fun k => laws_markText.l0.eq_2 ..) (ifp hp (bnd0 rfl (ifp (by rw [hsz]; omega) ?_)))⟩
    rw [ew]
    exact hr
   ·exact ⟨_, stp (fun k => laws_markText.l0.eq_2 ..) (ifn hp (ifp (by omega) (sm _)))⟩
 by_cases hz : a ≤ 0
 ·exact ⟨_, evc (fun k => laws_markText.f.eq_1 ..) (ifp hz (sm _))⟩
 ·obtain ⟨r, hr⟩ := key a.toNat a ⟨#[]⟩ (Nat.le_refl _) h0 h1 (by show 0 + _ ≤ _; omega)
  exact ⟨r, evc (fun k => laws_markText.f.eq_1 ..) (ifn hz hr)⟩
theorem markStr_is (l : List ByteArray) (a : Int) (hl : l.length ≤ 140737488351232) (h0 : 0 ≤ a) (h1 : a + ((1 * l.length : Nat) : Int) ≤ 1000000000000000000) : ∃ m, Ev (fun k => laws_markStringS.f k l a) (a + ((1 * l.length : Nat) : Int), m) := by
 obtain ⟨m, hm⟩ := markL 1 (fun x a i k => laws_markStringS.l0 k x a i) (fun x k => stp (fun k => laws_markStringS.l0.eq_2 ..) (ifn (by omega) (sm _))) (fun x k i hi hx hk hk1 => by
  obtain ⟨s, hs⟩ := markText_is k hk hk1
  refine ⟨x.set i s, by simp, fun r hr => stp (fun k => laws_markStringS.l0.eq_2 ..) (ifp (by omega) (bnd hs (ifp (by omega) ?_)))⟩
  rw [up (by omega) (by omega : (i : Int) < (x.length : Int)) (by omega), w64 (x := k + 1) (by omega) (by omega), Int.toNat_natCast]
  exact hr) l a hl h0 h1
 exact ⟨m, evc (fun k => laws_markStringS.f.eq_1 ..) hm⟩
theorem markInts_is (l : List Int) (a : Int) (hl : l.length ≤ 140737488351232) (h0 : 0 ≤ a) (h1 : a + ((1 * l.length : Nat) : Int) ≤ 1000000000000000000) : ∃ m, Ev (fun k => laws_markIntS.f k l a) (a + ((1 * l.length : Nat) : Int), m) := by
 obtain ⟨m, hm⟩ := markL 1 (fun x a i k => laws_markIntS.l0 k x a i) (fun x k => stp (fun k => laws_markIntS.l0.eq_2 ..) (ifn (by omega) (sm _))) (fun x k i hi hx hk hk1 => by
  refine ⟨x.set i k, by simp, fun r hr => stp (fun k => laws_markIntS.l0.eq_2 ..) (ifp (by omega) (ifp (by omega) ?_))⟩
  rw [up (by omega) (by omega : (i : Int) < (x.length : Int)) (by omega), w64 (x := k + 1) (by omega) (by omega), Int.toNat_natCast]
  exact hr) l a hl h0 h1
 exact ⟨m, evc (fun k => laws_markIntS.f.eq_1 ..) hm⟩
theorem markBools_is (l : List Bool) (a : Int) (hl : l.length ≤ 140737488351232) (h0 : 0 ≤ a) (h1 : a + ((1 * l.length : Nat) : Int) ≤ 1000000000000000000) : ∃ m, Ev (fun k => laws_markBoolS.f k l a) (a + ((1 * l.length : Nat) : Int), m) := by
 obtain ⟨m, hm⟩ := markL 1 (fun x a i k => laws_markBoolS.l0 k x a i) (fun x k => stp (fun k => laws_markBoolS.l0.eq_2 ..) (ifn (by omega) (sm _))) (fun x k i hi hx hk hk1 => by
  refine ⟨x.set i ((Int.tmod k 3) == 0), by simp, fun r hr => stp (fun k => laws_markBoolS.l0.eq_2 ..) (ifp (by omega) (ifp (by omega) ?_))⟩
  rw [up (by omega) (by omega : (i : Int) < (x.length : Int)) (by omega), w64 (x := k + 1) (by omega) (by omega), Int.toNat_natCast]
  exact hr) l a hl h0 h1
 exact ⟨m, evc (fun k => laws_markBoolS.f.eq_1 ..) hm⟩
theorem w1 {k : Int} (h0 : 0 ≤ k) (h1 : k ≤ 1000000000000000010) : wrap64 (k + 1) = k + 1 := w64 (by omega) (by omega)
theorem markLinks_is (l : List S92) (a : Int) (hl : l.length ≤ 140737488351232) (h0 : 0 ≤ a) (h1 : a + ((3 * l.length : Nat) : Int) ≤ 1000000000000000000) : ∃ m, Ev (fun k => laws_markLinkS.f k l a) (a + ((3 * l.length : Nat) : Int), m) := by
 obtain ⟨m, hm⟩ := markL 3 (fun x a i k => laws_markLinkS.l0 k x a i) (fun x k => stp (fun k => laws_markLinkS.l0.eq_2 ..) (ifn (by omega) (sm _))) (fun x k i hi hx hk hk1 => by
  refine Exists.intro ?y (And.intro ?ln ?hs)
  case hs =>
   intro r hr
   refine stp (fun k => laws_markLinkS.l0.eq_2 ..) (ifp (by omega) (ifp (by omega) (bnd0 rfl (bnd0 rfl ?_))))
   rw [up (by omega) (by omega : (i : Int) < (x.length : Int)) (by omega)]
   rw [w1 (k := k) (by omega) (by omega), w1 (k := k + 1) (by omega) (by omega), w1 (k := k + 1 + 1) (by omega) (by omega)]
   rw [show k + 1 + 1 + 1 = k + ((3 : Nat) : Int) by omega]
   exact hr
  case ln => simp) l a hl h0 h1
 exact ⟨m, evc (fun k => laws_markLinkS.f.eq_1 ..) hm⟩
theorem markImports_is (l : List S95) (a : Int) (hl : l.length ≤ 140737488351232) (h0 : 0 ≤ a) (h1 : a + ((5 * l.length : Nat) : Int) ≤ 1000000000000000000) : ∃ m, Ev (fun k => laws_markImportS.f k l a) (a + ((5 * l.length : Nat) : Int), m) := by
 obtain ⟨m, hm⟩ := markL 5 (fun x a i k => laws_markImportS.l0 k x a i) (fun x k => stp (fun k => laws_markImportS.l0.eq_2 ..) (ifn (by omega) (sm _))) (fun x k i hi hx hk hk1 => by
  refine Exists.intro ?y (And.intro ?ln ?hs)
  case hs =>
   intro r hr
   refine stp (fun k => laws_markImportS.l0.eq_2 ..) (ifp (by omega) (ifp (by omega) (bnd0 rfl (bnd0 rfl (bnd0 rfl (bnd0 rfl ?_))))))
   rw [up (by omega) (by omega : (i : Int) < (x.length : Int)) (by omega)]
   rw [w1 (k := k) (by omega) (by omega), w1 (k := k + 1) (by omega) (by omega), w1 (k := k + 1 + 1) (by omega) (by omega), w1 (k := k + 1 + 1 + 1) (by omega) (by omega), w1 (k := k + 1 + 1 + 1 + 1) (by omega) (by omega)]
   rw [show k + 1 + 1 + 1 + 1 + 1 = k + ((5 : Nat) : Int) by omega]
   exact hr
  case ln => simp) l a hl h0 h1
 exact ⟨m, evc (fun k => laws_markImportS.f.eq_1 ..) hm⟩
theorem markFilters_is (l : List S97) (a : Int) (hl : l.length ≤ 140737488351232) (h0 : 0 ≤ a) (h1 : a + ((4 * l.length : Nat) : Int) ≤ 1000000000000000000) : ∃ m, Ev (fun k => laws_markFilterS.f k l a) (a + ((4 * l.length : Nat) : Int), m) := by
 obtain ⟨m, hm⟩ := markL 4 (fun x a i k => laws_markFilterS.l0 k x a i) (fun x k => stp (fun k => laws_markFilterS.l0.eq_2 ..) (ifn (by omega) (sm _))) (fun x k i hi hx hk hk1 => by
  refine Exists.intro ?y (And.intro ?ln ?hs)
  case hs =>
   intro r hr
   refine stp (fun k => laws_markFilterS.l0.eq_2 ..) (ifp (by omega) (ifp (by omega) (bnd0 rfl (bnd0 rfl (bnd0 rfl ?_)))))
   rw [up (by omega) (by omega : (i : Int) < (x.length : Int)) (by omega)]
   rw [w1 (k := k) (by omega) (by omega), w1 (k := k + 1) (by omega) (by omega), w1 (k := k + 1 + 1) (by omega) (by omega), w1 (k := k + 1 + 1 + 1) (by omega) (by omega)]
   rw [show k + 1 + 1 + 1 + 1 = k + ((4 : Nat) : Int) by omega]
   exact hr
  case ln => simp) l a hl h0 h1
 exact ⟨m, evc (fun k => laws_markFilterS.f.eq_1 ..) hm⟩
theorem markNet_is (l0 : List ByteArray) (l1 : List S92) (l2 l3 : List Int) (l4 : List S95) (l5 : List S97) (h0 : l0.length ≤ 140737488351232) (h1 : l1.length ≤ 140737488351232) (h2 : l2.length ≤ 140737488351232) (h3 : l3.length ≤ 140737488351232) (h4 : l4.length ≤ 140737488351232) (h5 : l5.length ≤ 140737488351232) : ∃ r : Int × List ByteArray × (List S92) × List Int × List Int × (List S95) × (List S97), Ev (fun k => laws_markNet.f k l0 l1 l2 l3 l4 l5 1) r ∧ 0 ≤ r.1 ∧ r.1 ≤ 10000000000000000 := by
 obtain ⟨m0, e0⟩ := markStr_is l0 1 h0 (by omega) (by omega)
 obtain ⟨m1, e1⟩ := markLinks_is l1 (1 + ((1 * l0.length : Nat) : Int)) h1 (by omega) (by omega)
 obtain ⟨m2, e2⟩ := markInts_is l2 ((1 + ((1 * l0.length : Nat) : Int)) + ((3 * l1.length : Nat) : Int)) h2 (by omega) (by omega)
 obtain ⟨m3, e3⟩ := markInts_is l3 (((1 + ((1 * l0.length : Nat) : Int)) + ((3 * l1.length : Nat) : Int)) + ((1 * l2.length : Nat) : Int)) h3 (by omega) (by omega)
 obtain ⟨m4, e4⟩ := markImports_is l4 ((((1 + ((1 * l0.length : Nat) : Int)) + ((3 * l1.length : Nat) : Int)) + ((1 * l2.length : Nat) : Int)) + ((1 * l3.length : Nat) : Int)) h4 (by omega) (by omega)
 obtain ⟨m5, e5⟩ := markFilters_is l5 (((((1 + ((1 * l0.length : Nat) : Int)) + ((3 * l1.length : Nat) : Int)) + ((1 * l2.length : Nat) : Int)) + ((1 * l3.length : Nat) : Int)) + ((5 * l4.length : Nat) : Int)) h5 (by omega) (by omega)
 refine ⟨_, evc (fun k => laws_markNet.f.eq_1 ..) (bnd e0 (bnd e1 (bnd e2 (bnd e3 (bnd e4 (bnd e5 (sm _))))))), ?_, ?_⟩
 ·show 0 ≤ _
  omega
 ·show _ ≤ _
  omega
def nbL (l1 : List S92) (a : Int) (dn : List Bool) : Nat → Nat → List Int → List Int
 | 0, _, acc => acc
 | d + 1, i, acc => nbL l1 a dn d (i + 1) (if linkI l1 a (i : Int) ≥ 0 then (if rdOf false dn (linkI l1 a (i : Int)) = true then acc else acc ++ [(i : Int)]) else acc)
theorem nbL_len (l1 : List S92) (a : Int) (dn : List Bool) : ∀ (d i : Nat) (acc : List Int), (nbL l1 a dn d i acc).length ≤ acc.length + d
 | 0, i, acc => Nat.le_refl _
 | d + 1, i, acc => by
  rw [nbL]
  refine Nat.le_trans (nbL_len l1 a dn d (i + 1) _) ?_
  by_cases h1 : linkI l1 a (i : Int) ≥ 0
  ·rw [if_pos h1]
   by_cases h2 : rdOf false dn (linkI l1 a (i : Int)) = true
   ·rw [if_pos h2]; omega
   ·rw [if_neg h2, List.length_append, List.length_singleton]; omega
  ·rw [if_neg h1]; omega
theorem linkI_lt (l1 : List S92) (a b : Int) : linkI l1 a b < (l1.length : Int) ∨ linkI l1 a b = -1 := by
 unfold linkI
 obtain ⟨h1, h2⟩ := idxB_nonneg (joinB a b) l1 0
 cases h : l1.any (joinB a b) with
 | true => have := h1 h; omega
 | false => exact .inr (h2 h)
theorem sneigh_is (l0 : List ByteArray) (l1 : List S92) (l2 l3 : List Int) (l4 : List S95) (l5 : List S97) (a : Int) (dn : List Bool) (h0 : l0.length ≤ 4) (h1 : l1.length ≤ 6) (hd : dn.length = l1.length) : Ev (fun k => spec_l06Neighbours.f k l0 l1 l2 l3 l4 l5 a dn) (nbL l1 a dn l0.length 0 []) := by
 refine evc (fun k => spec_l06Neighbours.f.eq_1 ..) ?_
 have key : ∀ (d i : Nat) (acc : List Int), i + d = l0.length → acc.length ≤ i → Ev (fun k => spec_l06Neighbours.l0 k a dn acc (i : Int) l0 l1 l2 l3 l4 l5) (nbL l1 a dn d i acc) := by
  intro d
  induction d with
  | zero => intro i acc hi ha; exact stp (fun k => spec_l06Neighbours.l0.eq_2 ..) (ifn (by omega) (sm _))
  | succ d ih =>
   intro i acc hi ha
   have hu := up (i := (i : Int)) (by omega) (by omega : (i : Int) < (l0.length : Int)) (by omega)
   have hnx : ∀ acc : List Int, acc.length ≤ i + 1 → Ev (fun k => spec_l06Neighbours.l0 k a dn acc ((i : Int) + 1) l0 l1 l2 l3 l4 l5) (nbL l1 a dn d (i + 1) acc) := fun acc h => by
    have := ih (i + 1) acc (by omega) h
    rwa [show ((i + 1 : Nat) : Int) = (i : Int) + 1 by omega] at this
   refine stp (fun k => spec_l06Neighbours.l0.eq_2 ..) (ifp (by omega) (bnd (link_is l1 (by omega) a (i : Int)) ?_))
   rw [nbL, hu]
   by_cases hg : linkI l1 a (i : Int) ≥ 0
   ·rw [if_pos hg]
    have := linkI_lt l1 a (i : Int)
    refine ifp hg (ifp hg (ifp (by omega) ?_))
    by_cases hr : rdOf false dn (linkI l1 a (i : Int)) = true
    ·rw [if_pos hr]; exact ifp hr (hnx acc (by omega))
    ·rw [if_neg hr]; exact ifn hr (ifp (by omega) (hnx _ (by simp; omega)))
   ·rw [if_neg hg]; exact ifn hg (hnx acc (by omega))
 exact key l0.length 0 [] (by omega) (by simp)
theorem ineigh_is (l0 : List ByteArray) (l1 : List S92) (l2 l3 : List Int) (l4 : List S95) (l5 : List S97) (a : Int) (dn : List Bool) (h0 : l0.length ≤ 4) (h1 : l1.length ≤ 6) (hd : dn.length = l1.length) : Ev (fun k => impl_neighbours.f k l0 l1 l2 l3 l4 l5 a dn) (nbL l1 a dn l0.length 0 []) := by
 refine evc (fun k => impl_neighbours.f.eq_1 ..) ?_
 have key : ∀ (d i : Nat) (acc : List Int), i + d = l0.length → acc.length ≤ i → Ev (fun k => impl_neighbours.l0 k a dn acc (l0.length : Int) (i : Int) l0 l1 l2 l3 l4 l5) (nbL l1 a dn d i acc) := by
  intro d
  induction d with
  | zero => intro i acc hi ha; exact stp (fun k => impl_neighbours.l0.eq_2 ..) (ifn (by omega) (sm _))
  | succ d ih =>
   intro i acc hi ha
   have hu := up (i := (i : Int)) (by omega) (by omega : (i : Int) < (l0.length : Int)) (by omega)
   have hnx : ∀ acc : List Int, acc.length ≤ i + 1 → Ev (fun k => impl_neighbours.l0 k a dn acc (l0.length : Int) ((i : Int) + 1) l0 l1 l2 l3 l4 l5) (nbL l1 a dn d (i + 1) acc) := fun acc h => by
    have := ih (i + 1) acc (by omega) h
    rwa [show ((i + 1 : Nat) : Int) = (i : Int) + 1 by omega] at this
   refine stp (fun k => impl_neighbours.l0.eq_2 ..) (ifp (by omega) (bnd0 (show impl_linkOf.f l0 l1 l2 l3 l4 l5 a (i : Int) = some (linkI l1 a (i : Int)) from rfl) ?_))
   rw [nbL, hu]
   by_cases hg : linkI l1 a (i : Int) ≥ 0
   ·rw [if_pos hg]
    have := linkI_lt l1 a (i : Int)
    refine ifp hg (ifp hg (ifp (by omega) ?_))
    by_cases hr : rdOf false dn (linkI l1 a (i : Int)) = true
    ·rw [if_pos hr]; exact ifp hr (hnx acc (by omega))
    ·rw [if_neg hr]; exact ifn hr (ifp (by omega) (hnx _ (by simp; omega)))
   ·rw [if_neg hg]; exact ifn hg (hnx acc (by omega))
 exact key l0.length 0 [] (by omega) (by simp)
theorem netB_sz {l0 : List ByteArray} {l1 : List S92} {l2 l3 : List Int} {l4 : List S95} {l5 : List S97} (h : netB l0 l1 l2 l3 l4 l5 = true) : 1 ≤ l0.length ∧ l0.length ≤ 4 ∧ l1.length ≤ 6 ∧ l3.length ≤ 2 := by
 unfold netB inB at h
 simp only [Bool.and_eq_true, decide_eq_true_eq] at h
 omega
theorem same_is (l0 : List ByteArray) (l1 : List S92) (l2 l3 : List Int) (l4 : List S95) (l5 : List S97) (a : Int) (dn : List Bool) (hs : ∀ x ∈ l0, x.size ≤ 140737488351232) (h2 : l2.length ≤ 140737488351232) (h3 : l3.length ≤ 140737488351232) : ∃ s : List Int × Int, Ev (fun k => spec_Neighbours.f k l0 l1 l2 l3 l4 l5 a dn) s ∧ Ev (fun k => impl_Neighbours.f k l0 l1 l2 l3 l4 l5 a dn) s ∧ s.1.length ≤ 4 := by
 by_cases hd : (dn.length : Int) > 4096
 ·exact ⟨([], 2), evc (fun k => spec_Neighbours.f.eq_1 ..) (ifp hd (sm _)), evc (fun k => impl_Neighbours.f.eq_1 ..) (ifp hd (sm _)), by simp⟩
 ·have hsn := specNet_is l0 l1 l2 l3 l4 l5 hs h2 h3
  have hin := implNet_is l0 l1 l2 l3 l4 l5 hs h2 h3
  cases hN : netB l0 l1 l2 l3 l4 l5 with
  | false =>
   rw [hN] at hsn hin
   exact ⟨([], 1), evc (fun k => spec_Neighbours.f.eq_1 ..) (ifn hd (bnd hsn (ifn Bool.false_ne_true (sm _)))), evc (fun k => impl_Neighbours.f.eq_1 ..) (ifn hd (bnd hin (ifn Bool.false_ne_true (sm _)))), by simp⟩
  | true =>
   rw [hN] at hsn hin
   obtain ⟨g1, g2, g3, g4⟩ := netB_sz hN
   have hw : wrap64 ((l0.length : Int) - 1) = (l0.length : Int) - 1 := w64 (by omega) (by omega)
   have hls : spec_l01In.f a 0 (wrap64 ((l0.length : Int) - 1)) = some (inB a 0 ((l0.length : Int) - 1)) := by rw [hw]; exact sin_is _ _ _
   have hli : impl_isRouter.f l0 l1 l2 l3 l4 l5 a = some (inB a 0 ((l0.length : Int) - 1)) := by unfold impl_isRouter.f; rw [hw, within_is]; rfl
   cases hI : inB a 0 ((l0.length : Int) - 1) with
   | false =>
    rw [hI] at hls hli
    exact ⟨([], 5), evc (fun k => spec_Neighbours.f.eq_1 ..) (ifn hd (bnd hsn (ifp rfl (bnd0 hls (ifn Bool.false_ne_true (sm _)))))), evc (fun k => impl_Neighbours.f.eq_1 ..) (ifn hd (bnd hin (ifp rfl (bnd0 hli (ifn Bool.false_ne_true (sm _)))))), by simp⟩
   | true =>
    rw [hI] at hls hli
    by_cases he : (dn.length : Int) = (l1.length : Int)
    ·refine ⟨(nbL l1 a dn l0.length 0 [], 0), evc (fun k => spec_Neighbours.f.eq_1 ..) (ifn hd (bnd hsn (ifp rfl (bnd0 hls (ifp rfl (ifp he (bnd (sneigh_is l0 l1 l2 l3 l4 l5 a dn g2 g3 (by omega)) (sm _)))))))), evc (fun k => impl_Neighbours.f.eq_1 ..) (ifn hd (bnd hin (ifp rfl (bnd0 hli (ifp rfl (ifp he (bnd (ineigh_is l0 l1 l2 l3 l4 l5 a dn g2 g3 (by omega)) (sm _)))))))), ?_⟩
     have := nbL_len l1 a dn l0.length 0 []
     simp at this
     show (nbL l1 a dn l0.length 0 []).length ≤ 4
     omega
    ·exact ⟨([], 5), evc (fun k => spec_Neighbours.f.eq_1 ..) (ifn hd (bnd hsn (ifp rfl (bnd0 hls (ifp rfl (ifn he (sm _))))))), evc (fun k => impl_Neighbours.f.eq_1 ..) (ifn hd (bnd hin (ifp rfl (bnd0 hli (ifp rfl (ifn he (sm _))))))), by simp⟩
theorem FnExactNeighbours : laws_FnExactNeighbours.Pure := by
 intro l0 l1 l2 l3 l4 l5 a dn w0 w1 w2 w3 w4 w5 wa wd
 obtain ⟨b0, s0⟩ := w0
 obtain ⟨b1, s1⟩ := w1
 obtain ⟨b2, s2⟩ := w2
 obtain ⟨b3, s3⟩ := w3
 obtain ⟨b4, s4⟩ := w4
 obtain ⟨b5, s5⟩ := w5
 obtain ⟨bd, sd⟩ := wd
 refine Ev.rounds ?_
 refine evc (fun k => laws_FnExactNeighbours.f.eq_1 ..) ?_
 by_cases hbig : (dn.length : Int) > 1048576
 ·exact ifp hbig (sm _)
 refine ifn hbig ?_
 obtain ⟨v, hv, hle⟩ := szNet_is l0 l1 l2 l3 l4 l5 s0 (by omega) (by omega) (by omega) (by omega) (by omega) (by omega)
 refine bnd hv ?_
 by_cases h : v < 0
 ·exact ifp h (sm _)
 ·have hto := toNet_is l0 l1 l2 l3 l4 l5 (by omega) (by omega) (by omega) (by omega) (by omega) (by omega)
  obtain ⟨s, hs, hi, hsl⟩ := same_is l0 (l1.map cvL) l2 l3 (l4.map cvI) (l5.map cvF) a dn s0 (by omega) (by omega)
  have c1 : (l1.map cvL).length ≤ 140737488351232 := by rw [List.length_map]; omega
  have c4 : (l4.map cvI).length ≤ 140737488351232 := by rw [List.length_map]; omega
  have c5 : (l5.map cvF).length ≤ 140737488351232 := by rw [List.length_map]; omega
  obtain ⟨r, hr, hr0, hr1⟩ := markNet_is l0 (l1.map cvL) l2 l3 (l4.map cvI) (l5.map cvF) (by omega) c1 (by omega) (by omega) c4 c5
  obtain ⟨mb, hmb⟩ := markBools_is dn r.1 (by omega) hr0 (by omega)
  obtain ⟨m, m1, m2, m3⟩ := markN_is s.1 1 (by omega) (by omega)
  have hh := heldN_is m 1 (by omega) (by omega) m2
  refine ifn h (bnd hto (bnd (toB_is dn (by omega)) (bnd hs (bnd hi (bnd (eqI_self s.1 (by omega)) (bnd (eqNet_self l0 (l1.map cvL) l2 l3 (l4.map cvI) (l5.map cvF) (by omega) c1 (by omega) (by omega) c4 c5) (bnd (eqB_self dn (by omega)) (bnd hr (bnd hmb (bnd m3 (bnd hh (ifp ?_ (sm _)))))))))))))
  refine ⟨rfl, rfl, rfl, rfl, ?_, ?_, ?_, m1⟩
  ·show 0 ≤ r.1 + _
   omega
  ·show _ = (1 : Int) + (s.1.length : Int)
   rw [m1]
  ·show (0 : Int) ≤ 1 + (s.1.length : Int)
   omega
end Go.Proofs.Ytgibacfgjmdjdaa.Pure
end
