/- WRITTEN BY A PROGRAM OF THIS SESSION (wip/xprint) OVER THE KIT's PRINT, FOR THIS CLAIM: for Go functions that the law reaches, one Lean function each and the proof that Go's call comes to its answer. No conditions but those that each theorem names. -/
import Derived.Test.YtcmkkoggdcjceaaPFnExactAtMostExx0
import Derived.Test.YtcmkkoggdcjceaaPFnExactAtMostExx1
import Derived.Test.YtcmkkoggdcjceaaPFnExactAtMostExx2
import Derived.Test.YtcmkkoggdcjceaaPFnExactAtMostExx6
import Derived.Test.YtcmkkoggdcjceaaPFnExactAtMostExx7
namespace Go.Proofs.Ytcmkkoggdcjceaa.PFnExactAtMostEx
open Go.RowKit Go.Proofs.YtcmkkoggdcjceaaW.PrintWords Go.Proofs.YtcmkkoggdcjceaaW.PrintLast Go.Proofs.YtcmkkoggdcjceaaW.PrintMore
attribute [local go_sem] max2_int min2_int max_two min_two max_three min_three max_four min_four   -- for this text's walks alone
set_option linter.unusedVariables false
set_option linter.unusedSimpArgs false

/-! ### impl_cloneEx: function 122 -/
mutual
def impl_cloneEx.l0 : Nat → List (S31) → List (S31) → Int → Int → Int → Int → List (S31) → Option (Int × Int × (List (S31)))
  | 0, _, _, _, _, _, _, _ => none
  | k + 1, x3, x7, x8, x9, x204000, x204001, x204002 => if x9 < x8 then (if 0 ≤ x9 then (if x9 < (x7.length : Int) then ((impl_cloneEx.f k ((rd_T31 x7 x9).f0) ((rd_T31 x7 x9).f1) ((rd_T31 x7 x9).f2)).bind fun bt207 => (if x3.length < 3518437208883 then (impl_cloneEx.l0 k (x3 ++ [(⟨bt207.1, bt207.2.1, bt207.2.2⟩ : S31)]) x7 x8 (wrap64 (x9 + 1)) x204000 x204001 x204002) else (none))) else (none)) else (none)) else (some (x204000, x204001, x3))
def impl_cloneEx.f : Nat → Int → Int → List (S31) → Option (Int × Int × (List (S31)))
  | 0, _, _, _ => none
  | k + 1, a0_0, a0_1, l0_2 => impl_cloneEx.l0 k ([] : List (S31)) l0_2 (l0_2.length : Int) 0 a0_0 a0_1 l0_2
end
theorem impl_cloneEx.mono_l : ∀ k, (∀ y0 y1 y2, LeO (impl_cloneEx.f k y0 y1 y2) (impl_cloneEx.f (k + 1) y0 y1 y2)) ∧ (∀ y0 y1 y2 y3 y4 y5 y6, LeO (impl_cloneEx.l0 k y0 y1 y2 y3 y4 y5 y6) (impl_cloneEx.l0 (k + 1) y0 y1 y2 y3 y4 y5 y6))
  | 0 => ⟨fun _ _ _ r h => by simp [impl_cloneEx.f] at h, fun _ _ _ _ _ _ _ r h => by simp [impl_cloneEx.l0] at h⟩
  | k + 1 => by
    obtain ⟨ih0, ih1⟩ := impl_cloneEx.mono_l k
    refine ⟨?_, ?_⟩
    · intro y0 y1 y2
      unfold impl_cloneEx.f
      repeat' first
      | (with_reducible exact ih0 _ _ _)
      | (with_reducible exact ih1 _ _ _ _ _ _ _)
      | (with_reducible exact LeO.refl _)
      | (with_reducible exact LeO.none _)
      | (with_reducible refine LeO.ite ?_ ?_)
      | (with_reducible refine LeO.bind ?_ (fun _ => ?_))
      | exact ih0 _ _ _
      | exact ih1 _ _ _ _ _ _ _
      | exact LeO.none _
      | refine LeO.ite ?_ ?_
      | refine LeO.bind ?_ (fun _ => ?_)
    · intro y0 y1 y2 y3 y4 y5 y6
      unfold impl_cloneEx.l0
      repeat' first
      | (with_reducible exact ih0 _ _ _)
      | (with_reducible exact ih1 _ _ _ _ _ _ _)
      | (with_reducible exact LeO.refl _)
      | (with_reducible exact LeO.none _)
      | (with_reducible refine LeO.ite ?_ ?_)
      | (with_reducible refine LeO.bind ?_ (fun _ => ?_))
      | exact ih0 _ _ _
      | exact ih1 _ _ _ _ _ _ _
      | exact LeO.none _
      | refine LeO.ite ?_ ?_
      | refine LeO.bind ?_ (fun _ => ?_)
theorem impl_cloneEx.mono : ∀ a0 a1 a2 k, LeO (impl_cloneEx.f k a0 a1 a2) (impl_cloneEx.f (k + 1) a0 a1 a2) := by
  intro a0 a1 a2 k
  obtain ⟨ih0, ih1⟩ := impl_cloneEx.mono_l k
  exact ih0 a0 a1 a2
set_option maxHeartbeats 8000000 in
set_option maxRecDepth 100000 in
theorem cloneS.calls (k : Nat) : ∀ (a0_0 : Int) (a0_1 : Int) (A0_2 : Option Addr) (c0_2 : Nat) (l0_2 : List (S31)) (r1 : Int) (r2 : Int) (r3 : List (S31)) (w : World) (hr0_2 : Kd.C k31 w A0_2 l0_2.length l0_2) (hc0_2 : l0_2.length ≤ c0_2) (h : impl_cloneEx.f k a0_0 a0_1 l0_2 = some (r1, r2, r3)),
    Calls Try.prog 122 #[.agg #[.int .i64 a0_0, .int .i64 a0_1, .slice A0_2 l0_2.length c0_2]] w fun e w' => ∃ v2_ : Value, e = .returned (.agg #[.int .i64 r1, .int .i64 r2, v2_]) ∧ Kd.S kS31 31 w' w.heap.size (fun _ => True) v2_ r3 ∧ Below w.heap.size w w' := by
  induction k using Nat.strongRecOn with
  | _ k ih =>
  intro a0_0 a0_1 A0_2 c0_2 l0_2 r1 r2 r3 w hr0_2 hc0_2 h
  cases k with
  | zero => exact absurd h (by simp [impl_cloneEx.f])
  | succ k =>
  simp only [impl_cloneEx.f] at h
  have hu31 := Try.underlying31
  have HR0_2 := Aside0.mk hr0_2
  have HC0_2 := Aside0.mk hc0_2
  clear hr0_2 hc0_2
  have HB := Aside0.mk (Below.refl w.heap.size w)
  have H : (impl_cloneEx.l0 k ([] : List (S31)) l0_2 (l0_2.length : Int) 0 a0_0 a0_1 l0_2) = some (r1, r2, r3) := h
  clear h
  have H' := Aside0.mk H
  clear H
  go_enter Try.func122, Try.ntmps122
  go_wp2_with (first | ((with_reducible refine gate_dst (N := 1) rfl ?_); refine box_event ?hg (N := 1) ?hd (cs := #[.int .i64 a0_0, .int .i64 a0_1, .slice A0_2 l0_2.length c0_2]) (t := 31) ?hr ?_; (case hd => rfl); (case hg => rfl); (case hr => first | (go_simp; done) | (go_simp; rfl)); intro gb199 hg w2 hbox hb; have n0_ := Aside0.mk (below_step (by repeat (first | (with_reducible first | exact HB.out | apply below_alloc | apply pw_below_drewN | apply below_drew1) | exact HB.out)) hb); have n1_ := Aside0.mk (hbox); have n2_ := Aside0.mk ((by rw [hg]; exact (below_size (by repeat (first | (with_reducible first | exact HB.out | apply below_alloc | apply pw_below_drewN | apply below_drew1) | exact HB.out))) : w.heap.size ≤ gb199)); have n3_ := Aside0.mk ((by rw [hg]; exact (below_size (by repeat (first | (with_reducible first | exact HB.out | apply below_alloc | apply pw_below_drewN | apply below_drew1) | exact HB.out))) : w.heap.size ≤ gb199)); clear HB; have HB := n0_; have BK199 := n1_; have GW199 := n2_; have GE199 := n3_; clear n0_ n1_ n2_ n3_; clear hb hbox hg) | ((with_reducible refine gate_dst (N := 2) rfl ?_); refine box_event ?hg (N := 2) ?hd (cs := #[.int .i64 0, .int .i64 0, .slice none 0 0]) (t := 31) ?hr ?_; (case hd => rfl); (case hg => rfl); (case hr => first | (go_simp; done) | (go_simp; rfl)); intro gb200 hg w3 hbox hb; have n0_ := Aside0.mk (blk_below (g := gb199) (o := .cells #[.int .i64 a0_0, .int .i64 a0_1, .slice A0_2 l0_2.length c0_2] 31 (0, 0)) (by (with_reducible repeat (first | refine blk_drewN ?_ _ | refine blk_drew ?_ | refine blk_alloc ?_ _)); exact BK199.out) hb); have n1_ := Aside0.mk (below_step (by repeat (first | (with_reducible first | exact HB.out | apply below_alloc | apply pw_below_drewN | apply below_drew1 | refine below_set ?_ GE199.out) | exact HB.out)) hb); have n2_ := Aside0.mk (hbox); have n3_ := Aside0.mk ((by rw [hg]; exact (below_size (by repeat (first | (with_reducible first | exact HB.out | apply below_alloc | apply pw_below_drewN | apply below_drew1 | refine below_set ?_ GE199.out) | exact HB.out))) : w.heap.size ≤ gb200)); have n4_ := Aside0.mk ((by rw [hg]; exact (below_size (by repeat (first | (with_reducible first | exact HB.out | apply below_alloc | apply pw_below_drewN | apply below_drew1 | refine below_set ?_ GE199.out) | exact HB.out))) : w.heap.size ≤ gb200)); have n5_ := Aside0.mk ((by rw [hg]; exact Nat.ne_of_lt (blk_lt (g := gb199) (o := .cells #[.int .i64 a0_0, .int .i64 a0_1, .slice A0_2 l0_2.length c0_2] 31 (0, 0)) (by (with_reducible repeat (first | refine blk_drewN ?_ _ | refine blk_drew ?_ | refine blk_alloc ?_ _)); exact BK199.out)) : gb199 ≠ gb200)); have n6_ := Aside0.mk ((by rw [hg]; exact Nat.ne_of_gt (blk_lt (g := gb199) (o := .cells #[.int .i64 a0_0, .int .i64 a0_1, .slice A0_2 l0_2.length c0_2] 31 (0, 0)) (by (with_reducible repeat (first | refine blk_drewN ?_ _ | refine blk_drew ?_ | refine blk_alloc ?_ _)); exact BK199.out)) : gb200 ≠ gb199)); clear BK199; clear HB; have BK199 := n0_; have HB := n1_; have BK200 := n2_; have GW200 := n3_; have GE200 := n4_; have NB199_200 := n5_; have NB200_199 := n6_; clear n0_ n1_ n2_ n3_ n4_ n5_ n6_; clear hb hbox hg; have hnb4 := NB199_200.out; have hnc4 := NB200_199.out; have hcz5_0 : w3.cell? ⟨gb199, 0, none⟩ = some (.int .i64 a0_0) := (blk_cell BK199.out 0).trans rfl; have hcz5_1 : w3.cell? ⟨gb199, 1, none⟩ = some (.int .i64 a0_1) := (blk_cell BK199.out 1).trans rfl; have hcz5_2 : w3.cell? ⟨gb199, 2, none⟩ = some (.slice A0_2 l0_2.length c0_2) := (blk_cell BK199.out 2).trans rfl; have hfz5_0 := blk_frozen BK199.out 0; have hfz5_1 := blk_frozen BK199.out 1; have hfz5_2 := blk_frozen BK199.out 2))
  go_loopg [3, 9] k (fun kq v3 v9 w' => ∃ (x3_1 : List (S31)) (x9_1 : Int), v9 = .int .i64 x9_1 ∧ Aside0 (impl_cloneEx.l0 kq x3_1 l0_2 (l0_2.length : Int) x9_1 a0_0 a0_1 l0_2 = some (r1, r2, r3)) ∧ Aside0 (kq ≤ k) ∧ Aside0 (Kd.S kS31 31 w' w.heap.size (fun k_ => k_ ≠ gb199 ∧ k_ ≠ gb200) v3 x3_1) ∧ Aside0 (w'.heap[gb199]? = some (.cells #[.int .i64 a0_0, .int .i64 a0_1, (.slice A0_2 l0_2.length c0_2)] 31 (0, 0))) ∧ Aside0 (w'.heap[gb200]? = some (.cells #[.int .i64 0, .int .i64 0, (.slice none 0 0)] 31 (0, 0))) ∧ Aside0 (Below w.heap.size w w'))
  case atStart => exact ⟨(([] : List (S31))), (0), (by first | rfl | (simp; done) | (simp [*]; done)), H', ⟨Nat.le_refl _⟩, ⟨by first | exact Kd.S_nil _ _ _ _ _ | exact Kd.N_nil _ _ _ _ _ | exact Kd.V_nil _ _ _ _ _ | exact Kd.Q_nil _ _ _ _ _ | exact Kd.S_nil _ _ _ _ _⟩, ⟨by (with_reducible repeat (first | refine blk_drewN ?_ _ | refine blk_drew ?_ | refine blk_alloc ?_ _)); exact BK199.out⟩, ⟨by (with_reducible repeat (first | refine blk_drewN ?_ _ | refine blk_drew ?_ | refine blk_alloc ?_ _)); exact BK200.out⟩, ⟨by repeat (first | (with_reducible first | exact HB.out | apply below_alloc | apply pw_below_drewN | apply below_drew1 | refine below_set ?_ GE199.out | refine below_set ?_ GE200.out) | exact HB.out)⟩⟩
  case round =>
    clear H'
    try clear c1
    try clear p2
    try clear c4
    try clear hcz5_0
    try clear hcz5_1
    try clear hcz5_2
    try clear hfz5_0
    try clear hfz5_1
    try clear hfz5_2
    obtain ⟨x3_1, x9_1, rfl, HA, HK1, HO_3, BK199, BK200, HB⟩ := hrel
    cases gk with
    | zero => exact absurd HA.out (by simp [impl_cloneEx.l0])
    | succ k1 =>
      have H := HA.out
      clear HA
      simp only [impl_cloneEx.l0] at H
      by_cases c6 : x9_1 < (l0_2.length : Int)
      · rw [if_pos c6] at H
        have c6b0 : decide (x9_1 < (l0_2.length : Int)) = true := decide_eq_true c6
        clear c6
        by_cases c7 : 0 ≤ x9_1
        · rw [if_pos c7] at H
          have c7b0 : decide (0 ≤ x9_1) = true := decide_eq_true c7
          clear c7
          by_cases c8 : x9_1 < (l0_2.length : Int)
          · rw [if_pos c8] at H
            have c8b0 : decide (x9_1 < (l0_2.length : Int)) = true := decide_eq_true c8
            clear c8
            replace H := Option.bind_eq_some_iff.mp H
            obtain ⟨⟨t203, t204, t205⟩, A90, H⟩ := H
            replace H : (if x3_1.length < 3518437208883 then (impl_cloneEx.l0 k1 (x3_1 ++ [(⟨t203, t204, t205⟩ : S31)]) l0_2 (l0_2.length : Int) (wrap64 (x9_1 + 1)) a0_0 a0_1 l0_2) else (none)) = some (r1, r2, r3) := H
            have A9 := Aside0.mk A90
            clear A90
            by_cases c10 : x3_1.length < 3518437208883
            · rw [if_pos c10] at H
              have LMc10 := Aside0.mk c10
              clear c10
              obtain ⟨y208, hy208⟩ : ∃ y_ : List (S31), y_ = (x3_1 ++ [(⟨t203, t204, t205⟩ : S31)]) := ⟨_, rfl⟩
              replace H : (impl_cloneEx.l0 k1 y208 l0_2 (l0_2.length : Int) (wrap64 (x9_1 + 1)) a0_0 a0_1 l0_2) = some (r1, r2, r3) := by first | (rw [hy208]; with_reducible exact H) | (have H2_ := (Option.bind_some _ _).symm.trans H; rw [hy208]; with_reducible exact H2_) | (have H2_ := (Option.bind_some _ _).symm.trans H; with_reducible exact H2_) | with_reducible exact H | (rw [hy208]; exact H) | exact H
              have Ny208 := Aside0.mk hy208
              clear hy208
              have H' := Aside0.mk H
              clear H
              have p201 : 0 ≤ (x9_1 : Int) := of_decide_eq_true (by first | (with_reducible assumption) | assumption)
              have q201 : x9_1 < (l0_2.length : Int) := of_decide_eq_true (by first | (with_reducible assumption) | assumption)
              obtain ⟨ad201, A201_2, c201_2, e201, hx201_0, hx201_1, hx201_2, hl201_2, hi201_2⟩ := at_T31 HR0_2.out x9_1 p201 q201
              cases e201
              replace hx201_0 := (HB.out.cell (World.block_lt_of_cell? w _ hx201_0)).trans hx201_0
              replace hx201_1 := (HB.out.cell (World.block_lt_of_cell? w _ hx201_1)).trans hx201_1
              replace hx201_2 := (HB.out.cell (World.block_lt_of_cell? w _ hx201_2)).trans hx201_2
              have HR201_2 := Aside0.mk hi201_2
              have HC201_2 := Aside0.mk hl201_2
              clear hi201_2 hl201_2
              replace p201 := eq_true p201
              replace q201 := eq_true q201
              go_wp2_with (first | ((with_reducible refine gate_dst (N := 5) rfl ?_); refine box_event ?hg (N := 5) ?hd (cs := #[.int .i64 0, .int .i64 0, .slice none 0 0]) (t := 31) ?hr ?_; (case hd => rfl); (case hg => rfl); (case hr => first | (go_simp; done) | (go_simp; rfl)); intro gb202 hg w11 hbox hb; have n0_ := Aside0.mk (Kd.S_below (Kd.S_elderB (by (with_reducible repeat (first | apply Kd.S_alloc | apply Kd.S_drewN | apply Kd.S_drew)); exact HO_3.out) gb202 (Nat.le_of_eq hg.symm)) hb); have n1_ := Aside0.mk (blk_below (g := gb199) (o := .cells #[.int .i64 a0_0, .int .i64 a0_1, .slice (some ad201) l0_2.length c0_2] 31 (0, 0)) (by (with_reducible repeat (first | refine blk_drewN ?_ _ | refine blk_drew ?_ | refine blk_alloc ?_ _)); exact BK199.out) hb); have n2_ := Aside0.mk (blk_below (g := gb200) (o := .cells #[.int .i64 0, .int .i64 0, .slice none 0 0] 31 (0, 0)) (by (with_reducible repeat (first | refine blk_drewN ?_ _ | refine blk_drew ?_ | refine blk_alloc ?_ _)); exact BK200.out) hb); have n3_ := Aside0.mk (below_step (by repeat (first | (with_reducible first | exact HB.out | apply below_alloc | apply pw_below_drewN | apply below_drew1 | refine below_set ?_ GE199.out | refine below_set ?_ GE200.out) | exact HB.out)) hb); have n4_ := Aside0.mk (hbox); have n5_ := Aside0.mk ((by rw [hg]; exact (below_size (by repeat (first | (with_reducible first | exact HB.out | apply below_alloc | apply pw_below_drewN | apply below_drew1 | refine below_set ?_ GE199.out | refine below_set ?_ GE200.out) | exact HB.out))) : w.heap.size ≤ gb202)); have n6_ := Aside0.mk ((by rw [hg]; exact (below_size (by repeat (first | (with_reducible first | exact HB.out | apply below_alloc | apply pw_below_drewN | apply below_drew1 | refine below_set ?_ GE199.out | refine below_set ?_ GE200.out) | exact HB.out))) : w.heap.size ≤ gb202)); have n7_ := Aside0.mk ((by rw [hg]; exact Nat.ne_of_lt (blk_lt (g := gb199) (o := .cells #[.int .i64 a0_0, .int .i64 a0_1, .slice (some ad201) l0_2.length c0_2] 31 (0, 0)) (by (with_reducible repeat (first | refine blk_drewN ?_ _ | refine blk_drew ?_ | refine blk_alloc ?_ _)); exact BK199.out)) : gb199 ≠ gb202)); have n8_ := Aside0.mk ((by rw [hg]; exact Nat.ne_of_gt (blk_lt (g := gb199) (o := .cells #[.int .i64 a0_0, .int .i64 a0_1, .slice (some ad201) l0_2.length c0_2] 31 (0, 0)) (by (with_reducible repeat (first | refine blk_drewN ?_ _ | refine blk_drew ?_ | refine blk_alloc ?_ _)); exact BK199.out)) : gb202 ≠ gb199)); have n9_ := Aside0.mk ((by rw [hg]; exact Nat.ne_of_lt (blk_lt (g := gb200) (o := .cells #[.int .i64 0, .int .i64 0, .slice none 0 0] 31 (0, 0)) (by (with_reducible repeat (first | refine blk_drewN ?_ _ | refine blk_drew ?_ | refine blk_alloc ?_ _)); exact BK200.out)) : gb200 ≠ gb202)); have n10_ := Aside0.mk ((by rw [hg]; exact Nat.ne_of_gt (blk_lt (g := gb200) (o := .cells #[.int .i64 0, .int .i64 0, .slice none 0 0] 31 (0, 0)) (by (with_reducible repeat (first | refine blk_drewN ?_ _ | refine blk_drew ?_ | refine blk_alloc ?_ _)); exact BK200.out)) : gb202 ≠ gb200)); clear HO_3; clear BK199; clear BK200; clear HB; have HO_3 := n0_; have BK199 := n1_; have BK200 := n2_; have HB := n3_; have BK202 := n4_; have GW202 := n5_; have GE202 := n6_; have NB199_202 := n7_; have NB202_199 := n8_; have NB200_202 := n9_; have NB202_200 := n10_; clear n0_ n1_ n2_ n3_ n4_ n5_ n6_ n7_ n8_ n9_ n10_; clear hb hbox hg; have hnb12 := NB202_199.out; have hnc12 := NB199_202.out; have hnb13 := NB202_200.out; have hnc13 := NB200_202.out; have hcz14_0 : w11.cell? ⟨gb202, 0, none⟩ = some (.int .i64 0) := (blk_cell BK202.out 0).trans rfl; have hcz14_1 : w11.cell? ⟨gb202, 1, none⟩ = some (.int .i64 0) := (blk_cell BK202.out 1).trans rfl; have hcz14_2 : w11.cell? ⟨gb202, 2, none⟩ = some (.slice none 0 0) := (blk_cell BK202.out 2).trans rfl; have hfz14_0 := blk_frozen BK202.out 0; have hfz14_1 := blk_frozen BK202.out 1; have hfz14_2 := blk_frozen BK202.out 2) | ((with_reducible refine gate_callee (f := 122) rfl ?_); refine goesL_ (some 15) rfl rfl Try.func122 (by kernel_rfl) rfl #[.agg #[.int .i64 ((rd_T31 l0_2 x9_1).f0), .int .i64 ((rd_T31 l0_2 x9_1).f1), .slice A201_2 ((rd_T31 l0_2 x9_1).f2).length c201_2]] rfl (by (try simp only [List.map_toArray, List.map_cons, List.map_nil]); first | done | rfl | (simp only [List.length_drop, List.length_take]; rfl)) ?_; (with_reducible refine (ih k1 (by have := HK1.out; omega) ((rd_T31 l0_2 x9_1).f0) ((rd_T31 l0_2 x9_1).f1) _ _ ((rd_T31 l0_2 x9_1).f2) t203 t204 t205 _ ?side1 ?side2 A9.out).mono ?_); (case side1 => exact Kd.C_below HR201_2.out (by repeat (first | (with_reducible first | exact HB.out | apply below_alloc | apply pw_below_drewN | apply below_drew1 | refine below_set ?_ GE199.out | refine below_set ?_ GE200.out | refine below_set ?_ GE202.out) | exact HB.out))); (case side2 => exact HC201_2.out); rintro e w15 ⟨v206, rfl, ho0, hb⟩; refine ⟨_, rfl, ?_⟩; obtain ⟨N_, hoN_, hel_⟩ := S_tell hb ho0; have n0_ := Aside0.mk (hel_ (by (with_reducible repeat (first | apply Kd.S_alloc | apply Kd.S_drewN | apply Kd.S_drew)); exact (Kd.S_mono (Kd.S_far (p := ⟨gb202, 2, none⟩) (Kd.S_far (p := ⟨gb202, 1, none⟩) (Kd.S_far (p := ⟨gb202, 0, none⟩) (Kd.S_mono HO_3.out (fun k_ hk => (⟨hk, hk.2⟩ : _ ∧ k_ ≠ gb202))) (fun _ hk => hk.2) (.int .i64 ((rd_T31 l0_2 x9_1).f0))) (fun _ hk => hk.2) (.int .i64 ((rd_T31 l0_2 x9_1).f1))) (fun _ hk => hk.2) (.slice A201_2 ((rd_T31 l0_2 x9_1).f2).length c201_2)) (fun _ h_ => h_.1)))); have n1_ := Aside0.mk (Kd.S_lower (Kd.S_newB (Kd.S_newB (Kd.S_newB (Kd.S_new' hoN_ (Kd.S_lt (by (with_reducible repeat (first | apply Kd.S_alloc | apply Kd.S_drewN | apply Kd.S_drew)); exact (Kd.S_mono (Kd.S_far (p := ⟨gb202, 2, none⟩) (Kd.S_far (p := ⟨gb202, 1, none⟩) (Kd.S_far (p := ⟨gb202, 0, none⟩) (Kd.S_mono HO_3.out (fun k_ hk => (⟨hk, hk.2⟩ : _ ∧ k_ ≠ gb202))) (fun _ hk => hk.2) (.int .i64 ((rd_T31 l0_2 x9_1).f0))) (fun _ hk => hk.2) (.int .i64 ((rd_T31 l0_2 x9_1).f1))) (fun _ hk => hk.2) (.slice A201_2 ((rd_T31 l0_2 x9_1).f2).length c201_2)) (fun _ h_ => h_.1))))) (g := gb199) (o := .cells #[.int .i64 a0_0, .int .i64 a0_1, .slice (some ad201) l0_2.length c0_2] 31 (0, 0)) (by (with_reducible repeat (first | refine blk_drewN ?_ _ | refine blk_drew ?_ | refine blk_alloc ?_ _)); refine blk_far ?_ NB199_202.out _; (with_reducible repeat (first | refine blk_drewN ?_ _ | refine blk_drew ?_ | refine blk_alloc ?_ _)); refine blk_far ?_ NB199_202.out _; (with_reducible repeat (first | refine blk_drewN ?_ _ | refine blk_drew ?_ | refine blk_alloc ?_ _)); refine blk_far ?_ NB199_202.out _; (with_reducible repeat (first | refine blk_drewN ?_ _ | refine blk_drew ?_ | refine blk_alloc ?_ _)); exact BK199.out)) (g := gb200) (o := .cells #[.int .i64 0, .int .i64 0, .slice none 0 0] 31 (0, 0)) (by (with_reducible repeat (first | refine blk_drewN ?_ _ | refine blk_drew ?_ | refine blk_alloc ?_ _)); refine blk_far ?_ NB200_202.out _; (with_reducible repeat (first | refine blk_drewN ?_ _ | refine blk_drew ?_ | refine blk_alloc ?_ _)); refine blk_far ?_ NB200_202.out _; (with_reducible repeat (first | refine blk_drewN ?_ _ | refine blk_drew ?_ | refine blk_alloc ?_ _)); refine blk_far ?_ NB200_202.out _; (with_reducible repeat (first | refine blk_drewN ?_ _ | refine blk_drew ?_ | refine blk_alloc ?_ _)); exact BK200.out)) (g := gb202) (o := .cells #[.int .i64 ((rd_T31 l0_2 x9_1).f0), .int .i64 ((rd_T31 l0_2 x9_1).f1), .slice A201_2 ((rd_T31 l0_2 x9_1).f2).length c201_2] 31 (0, 0)) (by (with_reducible repeat (first | refine blk_drewN ?_ _ | refine blk_drew ?_ | refine blk_alloc ?_ _)); refine blk_put (cs := #[.int .i64 ((rd_T31 l0_2 x9_1).f0), .int .i64 ((rd_T31 l0_2 x9_1).f1), .slice none 0 0]) ?_ 2 _ rfl; (with_reducible repeat (first | refine blk_drewN ?_ _ | refine blk_drew ?_ | refine blk_alloc ?_ _)); refine blk_put (cs := #[.int .i64 ((rd_T31 l0_2 x9_1).f0), .int .i64 0, .slice none 0 0]) ?_ 1 _ rfl; (with_reducible repeat (first | refine blk_drewN ?_ _ | refine blk_drew ?_ | refine blk_alloc ?_ _)); refine blk_put (cs := #[.int .i64 0, .int .i64 0, .slice none 0 0]) ?_ 0 _ rfl; (with_reducible repeat (first | refine blk_drewN ?_ _ | refine blk_drew ?_ | refine blk_alloc ?_ _)); exact BK202.out)) (below_size (by repeat (first | (with_reducible first | exact HB.out | apply below_alloc | apply pw_below_drewN | apply below_drew1 | refine below_set ?_ GE199.out | refine below_set ?_ GE200.out | refine below_set ?_ GE202.out) | exact HB.out)))); have n2_ := Aside0.mk (blk_below (g := gb199) (o := .cells #[.int .i64 a0_0, .int .i64 a0_1, .slice (some ad201) l0_2.length c0_2] 31 (0, 0)) (by (with_reducible repeat (first | refine blk_drewN ?_ _ | refine blk_drew ?_ | refine blk_alloc ?_ _)); refine blk_far ?_ NB199_202.out _; (with_reducible repeat (first | refine blk_drewN ?_ _ | refine blk_drew ?_ | refine blk_alloc ?_ _)); refine blk_far ?_ NB199_202.out _; (with_reducible repeat (first | refine blk_drewN ?_ _ | refine blk_drew ?_ | refine blk_alloc ?_ _)); refine blk_far ?_ NB199_202.out _; (with_reducible repeat (first | refine blk_drewN ?_ _ | refine blk_drew ?_ | refine blk_alloc ?_ _)); exact BK199.out) hb); have n3_ := Aside0.mk (blk_below (g := gb200) (o := .cells #[.int .i64 0, .int .i64 0, .slice none 0 0] 31 (0, 0)) (by (with_reducible repeat (first | refine blk_drewN ?_ _ | refine blk_drew ?_ | refine blk_alloc ?_ _)); refine blk_far ?_ NB200_202.out _; (with_reducible repeat (first | refine blk_drewN ?_ _ | refine blk_drew ?_ | refine blk_alloc ?_ _)); refine blk_far ?_ NB200_202.out _; (with_reducible repeat (first | refine blk_drewN ?_ _ | refine blk_drew ?_ | refine blk_alloc ?_ _)); refine blk_far ?_ NB200_202.out _; (with_reducible repeat (first | refine blk_drewN ?_ _ | refine blk_drew ?_ | refine blk_alloc ?_ _)); exact BK200.out) hb); have n4_ := Aside0.mk (blk_below (g := gb202) (o := .cells #[.int .i64 ((rd_T31 l0_2 x9_1).f0), .int .i64 ((rd_T31 l0_2 x9_1).f1), .slice A201_2 ((rd_T31 l0_2 x9_1).f2).length c201_2] 31 (0, 0)) (by (with_reducible repeat (first | refine blk_drewN ?_ _ | refine blk_drew ?_ | refine blk_alloc ?_ _)); refine blk_put (cs := #[.int .i64 ((rd_T31 l0_2 x9_1).f0), .int .i64 ((rd_T31 l0_2 x9_1).f1), .slice none 0 0]) ?_ 2 _ rfl; (with_reducible repeat (first | refine blk_drewN ?_ _ | refine blk_drew ?_ | refine blk_alloc ?_ _)); refine blk_put (cs := #[.int .i64 ((rd_T31 l0_2 x9_1).f0), .int .i64 0, .slice none 0 0]) ?_ 1 _ rfl; (with_reducible repeat (first | refine blk_drewN ?_ _ | refine blk_drew ?_ | refine blk_alloc ?_ _)); refine blk_put (cs := #[.int .i64 0, .int .i64 0, .slice none 0 0]) ?_ 0 _ rfl; (with_reducible repeat (first | refine blk_drewN ?_ _ | refine blk_drew ?_ | refine blk_alloc ?_ _)); exact BK202.out) hb); have n5_ := Aside0.mk (below_step (by repeat (first | (with_reducible first | exact HB.out | apply below_alloc | apply pw_below_drewN | apply below_drew1 | refine below_set ?_ GE199.out | refine below_set ?_ GE200.out | refine below_set ?_ GE202.out) | exact HB.out)) hb); clear HO_3; clear BK199; clear BK200; clear BK202; clear HB; have HO_3 := n0_; have HO207 := n1_; have BK199 := n2_; have BK200 := n3_; have BK202 := n4_; have HB := n5_; clear n0_ n1_ n2_ n3_ n4_ n5_; (try clear hb); (try clear hb2); (try clear hk); (try clear hi); (try clear ho0); obtain ⟨Ao17, co17, eo17⟩ := Kd.S_slice HO207.out; subst eo17) | ((with_reducible refine gate_builtin (b := .append) (xs := #[.tmp 13, .tmp 16]) rfl ?_); at_builtin; refine Kd.S_append kS31 (w0 := w) w.heap.size rfl (.tmp 13) (.tmp 16) 29 31 (.agg #[(.int .i64 0), (.int .i64 0), (.slice none 0 0)]) 40 rfl Try.underlying29 info31 rfl (by decide) (by omega) u3 x3_1 (⟨t203, t204, t205⟩ : S31) [.int .i64 t203, .int .i64 t204, .slice Ao17 t205.length co17] (fun k_ => k_ ≠ gb199 ∧ k_ ≠ gb200 ∧ k_ ≠ gb202) (fun k_ => (((fun k_ => k_ ≠ gb199 ∧ k_ ≠ gb200 ∧ k_ ≠ gb202)) k_ ∧ some k_ ≠ (u3 : Value).ownBlock) ∧ N_ ≤ k_) rfl rfl ?aP (fun _ hk => hk.1) ?aF ?aO ?aB ?aS ?aL ?_; (case aP => exact kS31_mkM _ _ _ (⟨t203, t204, t205⟩ : S31) (Kd.S_mono (HO207.out) (fun k_ hk => ⟨⟨⟨hk.1.1.2, ⟨hk.1.2, hk.2⟩⟩, hk.1.1.1.2⟩, hk.1.1.1.1.2⟩))); (case aB => exact (by repeat (first | (with_reducible first | exact HB.out | apply below_alloc | apply pw_below_drewN | apply below_drew1 | refine below_set ?_ GE199.out | refine below_set ?_ GE200.out | refine below_set ?_ GE202.out) | exact HB.out))); (case aF => exact (fun k_ hk => ⟨Kd.freshB (g := gb199) (o := .cells #[.int .i64 a0_0, .int .i64 a0_1, .slice (some ad201) l0_2.length c0_2] 31 (0, 0)) (by (with_reducible repeat (first | refine blk_drewN ?_ _ | refine blk_drew ?_ | refine blk_alloc ?_ _)); exact BK199.out) k_ hk, Kd.freshB (g := gb200) (o := .cells #[.int .i64 0, .int .i64 0, .slice none 0 0] 31 (0, 0)) (by (with_reducible repeat (first | refine blk_drewN ?_ _ | refine blk_drew ?_ | refine blk_alloc ?_ _)); exact BK200.out) k_ hk, Kd.freshB (g := gb202) (o := .cells #[.int .i64 ((rd_T31 l0_2 x9_1).f0), .int .i64 ((rd_T31 l0_2 x9_1).f1), .slice A201_2 ((rd_T31 l0_2 x9_1).f2).length c201_2] 31 (0, 0)) (by (with_reducible repeat (first | refine blk_drewN ?_ _ | refine blk_drew ?_ | refine blk_alloc ?_ _)); exact BK202.out) k_ hk⟩)); (case aO => exact (by (with_reducible repeat (first | apply Kd.S_alloc | apply Kd.S_drewN | apply Kd.S_drew)); exact Kd.S_mono HO_3.out (fun _ hk => ⟨⟨hk.1.1.1, ⟨hk.1.1.2, hk.1.2⟩⟩, fun h_ => Nat.lt_irrefl _ (Nat.lt_of_lt_of_le hk.2 h_.2)⟩))); (case aS => exact (below_size (by repeat (first | (with_reducible first | exact HB.out | apply below_alloc | apply pw_below_drewN | apply below_drew1 | refine below_set ?_ GE199.out | refine below_set ?_ GE200.out | refine below_set ?_ GE202.out) | exact HB.out)))); (case aL => have := LMc10.out; omega); intro v209 w16 ho hb hg hat; rw [← Ny208.out] at ho; have n0_ := Aside0.mk (blk_grown (g := gb199) (o := .cells #[.int .i64 a0_0, .int .i64 a0_1, .slice (some ad201) l0_2.length c0_2] 31 (0, 0)) (by (with_reducible repeat (first | refine blk_drewN ?_ _ | refine blk_drew ?_ | refine blk_alloc ?_ _)); exact BK199.out) hg (Kd.S_away HO_3.out (fun _ hk => hk.1.1.1))); have n1_ := Aside0.mk (blk_grown (g := gb200) (o := .cells #[.int .i64 0, .int .i64 0, .slice none 0 0] 31 (0, 0)) (by (with_reducible repeat (first | refine blk_drewN ?_ _ | refine blk_drew ?_ | refine blk_alloc ?_ _)); exact BK200.out) hg (Kd.S_away HO_3.out (fun _ hk => hk.1.1.2))); have n2_ := Aside0.mk (blk_grown (g := gb202) (o := .cells #[.int .i64 ((rd_T31 l0_2 x9_1).f0), .int .i64 ((rd_T31 l0_2 x9_1).f1), .slice A201_2 ((rd_T31 l0_2 x9_1).f2).length c201_2] 31 (0, 0)) (by (with_reducible repeat (first | refine blk_drewN ?_ _ | refine blk_drew ?_ | refine blk_alloc ?_ _)); exact BK202.out) hg (Kd.S_away HO_3.out (fun _ hk => hk.1.2))); have n3_ := Aside0.mk (hb); have n4_ := Aside0.mk (ho); clear BK199; clear BK200; clear BK202; clear HB; clear HO_3; clear HO207; have BK199 := n0_; have BK200 := n1_; have BK202 := n2_; have HB := n3_; have HO210 := n4_; clear n0_ n1_ n2_ n3_ n4_; clear ho hb hg hat))
              go_roundg k1
              case measure => have := HK1.out; omega
              case rel => exact ⟨(y208), (wrap64 (x9_1 + 1)), (by first | rfl | (simp; done) | (simp [*]; done)), H', ⟨by have := HK1.out; omega⟩, ⟨by (with_reducible repeat (first | apply Kd.S_alloc | apply Kd.S_drewN | apply Kd.S_drew)); exact Kd.S_mono HO210.out (fun _ hk => ⟨hk.1, hk.2.1⟩)⟩, ⟨by (with_reducible repeat (first | refine blk_drewN ?_ _ | refine blk_drew ?_ | refine blk_alloc ?_ _)); exact BK199.out⟩, ⟨by (with_reducible repeat (first | refine blk_drewN ?_ _ | refine blk_drew ?_ | refine blk_alloc ?_ _)); exact BK200.out⟩, ⟨by repeat (first | (with_reducible first | exact HB.out | apply below_alloc | apply pw_below_drewN | apply below_drew1 | refine below_set ?_ GE199.out | refine below_set ?_ GE200.out | refine below_set ?_ GE202.out) | exact HB.out)⟩⟩
            · rw [if_neg c10] at H
              exact absurd H (by simp)
          · rw [if_neg c8] at H
            exact absurd H (by simp)
        · rw [if_neg c7] at H
          exact absurd H (by simp)
      · rw [if_neg c6] at H
        have c6b0 : decide (x9_1 < (l0_2.length : Int)) = false := decide_eq_false c6
        clear c6
        simp only [Option.some.injEq, Prod.mk.injEq] at H
        obtain ⟨rfl, rfl, rfl⟩ := H
        obtain ⟨Ao18, co18, eo18⟩ := Kd.S_slice HO_3.out
        subst eo18
        have hnb19 := NB199_200.out
        have hnc19 := NB200_199.out
        have hcz20_0 : wr.cell? ⟨gb199, 0, none⟩ = some (.int .i64 a0_0) := (blk_cell BK199.out 0).trans rfl
        have hcz20_1 : wr.cell? ⟨gb199, 1, none⟩ = some (.int .i64 a0_1) := (blk_cell BK199.out 1).trans rfl
        have hcz20_2 : wr.cell? ⟨gb199, 2, none⟩ = some (.slice A0_2 l0_2.length c0_2) := (blk_cell BK199.out 2).trans rfl
        have hfz20_0 := blk_frozen BK199.out 0
        have hfz20_1 := blk_frozen BK199.out 1
        have hfz20_2 := blk_frozen BK199.out 2
        have hcz21_0 : wr.cell? ⟨gb200, 0, none⟩ = some (.int .i64 0) := (blk_cell BK200.out 0).trans rfl
        have hcz21_1 : wr.cell? ⟨gb200, 1, none⟩ = some (.int .i64 0) := (blk_cell BK200.out 1).trans rfl
        have hcz21_2 : wr.cell? ⟨gb200, 2, none⟩ = some (.slice none 0 0) := (blk_cell BK200.out 2).trans rfl
        have hfz21_0 := blk_frozen BK200.out 0
        have hfz21_1 := blk_frozen BK200.out 1
        have hfz21_2 := blk_frozen BK200.out 2
        go_wp2
        refine bodyPost_ret (results_cell_row rfl _ _ gb200 31 #[.int .i64 a0_0, .int .i64 a0_1, .slice Ao18 x3_1.length co18] (0, 0) _ rfl (by (with_reducible repeat (first | refine blk_drewN ?_ _ | refine blk_drew ?_ | refine blk_alloc ?_ _)); refine blk_put (cs := #[.int .i64 a0_0, .int .i64 a0_1, .slice none 0 0]) ?_ 2 _ rfl; (with_reducible repeat (first | refine blk_drewN ?_ _ | refine blk_drew ?_ | refine blk_alloc ?_ _)); refine blk_put (cs := #[.int .i64 a0_0, .int .i64 0, .slice none 0 0]) ?_ 1 _ rfl; (with_reducible repeat (first | refine blk_drewN ?_ _ | refine blk_drew ?_ | refine blk_alloc ?_ _)); refine blk_put (cs := #[.int .i64 0, .int .i64 0, .slice none 0 0]) ?_ 0 _ rfl; (with_reducible repeat (first | refine blk_drewN ?_ _ | refine blk_drew ?_ | refine blk_alloc ?_ _)); refine blk_far ?_ NB200_199.out _; (with_reducible repeat (first | refine blk_drewN ?_ _ | refine blk_drew ?_ | refine blk_alloc ?_ _)); exact BK200.out) Try.underlying31 rfl (by kernel_rfl)) rfl ?_
        exact ⟨_, by first | rfl | (simp [errW_none, errW_some] <;> rfl) | (simp [*, errW_none, errW_some] <;> rfl), by (with_reducible repeat (first | apply Kd.S_alloc | apply Kd.S_drewN | apply Kd.S_drew)); exact Kd.S_mono (Kd.S_far (p := ⟨gb200, 2, none⟩) (Kd.S_far (p := ⟨gb200, 1, none⟩) (Kd.S_far (p := ⟨gb200, 0, none⟩) (Kd.S_far (p := ⟨gb199, 2, none⟩) (Kd.S_mono (Kd.S_mono HO_3.out (fun k_ hk => (⟨hk, hk.1⟩ : _ ∧ k_ ≠ gb199))) (fun k_ hk => (⟨hk, hk.1.2⟩ : _ ∧ k_ ≠ gb200))) (fun _ hk => hk.1.2) (.slice Ao18 x3_1.length co18)) (fun _ hk => hk.2) (.int .i64 a0_0)) (fun _ hk => hk.2) (.int .i64 a0_1)) (fun _ hk => hk.2) (.slice Ao18 x3_1.length co18)) (fun _ hk => trivial), by repeat (first | (with_reducible first | exact HB.out | apply below_alloc | apply pw_below_drewN | apply below_drew1 | refine below_set ?_ GE199.out | refine below_set ?_ GE200.out) | exact HB.out)⟩

/-! ### impl_checkedEx: function 81 -/
def impl_checkedEx.f (k : Nat) (a0_0 : Int) (a0_1 : Int) (l0_2 : List (S31)) : Option (Int × Int × (List (S31)) × Int) := (impl_isEx.f a0_0 a0_1 l0_2).bind fun t217 => (if t217 = true then ((impl_cloneEx.f k a0_0 a0_1 l0_2).bind fun bt218 => (some (bt218.1, bt218.2.1, bt218.2.2, 0))) else (some (0, 0, ([] : List (S31)), 11)))
theorem impl_checkedEx.mono : ∀ a0 a1 a2 k, LeO (impl_checkedEx.f k a0 a1 a2) (impl_checkedEx.f (k + 1) a0 a1 a2) := by
  intro a0 a1 a2 k
  unfold impl_checkedEx.f
  repeat' first
      | (with_reducible exact impl_cloneEx.mono _ _ _ _)
      | (with_reducible exact LeO.refl _)
      | (with_reducible exact LeO.none _)
      | (with_reducible refine LeO.ite ?_ ?_)
      | (with_reducible refine LeO.bind ?_ (fun _ => ?_))
      | exact impl_cloneEx.mono _ _ _ _
      | exact LeO.none _
      | refine LeO.ite ?_ ?_
      | refine LeO.bind ?_ (fun _ => ?_)
set_option maxHeartbeats 8000000 in
set_option maxRecDepth 100000 in
theorem checkedS.calls (k : Nat) (a0_0 : Int) (a0_1 : Int) (A0_2 : Option Addr) (c0_2 : Nat) (l0_2 : List (S31)) (r1 : Int) (r2 : Int) (r3 : List (S31)) (r4 : Int) (w : World) (hr0_2 : Kd.C k31 w A0_2 l0_2.length l0_2) (hc0_2 : l0_2.length ≤ c0_2) (h : impl_checkedEx.f k a0_0 a0_1 l0_2 = some (r1, r2, r3, r4)) :
    Calls Try.prog 81 #[.agg #[.int .i64 a0_0, .int .i64 a0_1, .slice A0_2 l0_2.length c0_2]] w fun e w' => ∃ v2_ : Value, e = .returned (.tuple #[.agg #[.int .i64 r1, .int .i64 r2, v2_], .int .i64 r4]) ∧ Kd.S kS31 31 w' w.heap.size (fun _ => True) v2_ r3 ∧ Below w.heap.size w w' := by
  have hu31 := Try.underlying31
  have HR0_2 := Aside0.mk hr0_2
  have HC0_2 := Aside0.mk hc0_2
  clear hr0_2 hc0_2
  have HB := Aside0.mk (Below.refl w.heap.size w)
  have H : ((impl_isEx.f a0_0 a0_1 l0_2).bind fun t213 => (if t213 = true then ((impl_cloneEx.f k a0_0 a0_1 l0_2).bind fun bt214 => (some (bt214.1, bt214.2.1, bt214.2.2, 0))) else (some (0, 0, ([] : List (S31)), 11)))) = some (r1, r2, r3, r4) := h
  clear h
  replace H := Option.bind_eq_some_iff.mp H
  obtain ⟨t213, A20, H⟩ := H
  replace H : (if t213 = true then ((impl_cloneEx.f k a0_0 a0_1 l0_2).bind fun bt214 => (some (bt214.1, bt214.2.1, bt214.2.2, 0))) else (some (0, 0, ([] : List (S31)), 11))) = some (r1, r2, r3, r4) := H
  have A2 := Aside0.mk A20
  clear A20
  by_cases c3 : t213 = true
  · subst c3
    have H1 : ((impl_cloneEx.f k a0_0 a0_1 l0_2).bind fun bt214 => (some (bt214.1, bt214.2.1, bt214.2.2, 0))) = some (r1, r2, r3, r4) := by rw [if_pos rfl] at H; exact H
    clear H
    have H := H1
    clear H1
    replace H := Option.bind_eq_some_iff.mp H
    obtain ⟨⟨t214, t215, t216⟩, A40, H⟩ := H
    replace H : (some (t214, t215, t216, 0)) = some (r1, r2, r3, r4) := H
    have A4 := Aside0.mk A40
    clear A40
    simp only [Option.some.injEq, Prod.mk.injEq] at H
    obtain ⟨rfl, rfl, rfl, rfl⟩ := H
    go_enter Try.func81, Try.ntmps81
    go_wp2_with (first | ((with_reducible refine gate_dst (N := 1) rfl ?_); refine box_event ?hg (N := 1) ?hd (cs := #[.int .i64 a0_0, .int .i64 a0_1, .slice A0_2 l0_2.length c0_2]) (t := 31) ?hr ?_; (case hd => rfl); (case hg => rfl); (case hr => first | (go_simp; done) | (go_simp; rfl)); intro gb211 hg w5 hbox hb; have n0_ := Aside0.mk (below_step (by repeat (first | (with_reducible first | exact HB.out | apply below_alloc | apply pw_below_drewN | apply below_drew1) | exact HB.out)) hb); have n1_ := Aside0.mk (hbox); have n2_ := Aside0.mk ((by rw [hg]; exact (below_size (by repeat (first | (with_reducible first | exact HB.out | apply below_alloc | apply pw_below_drewN | apply below_drew1) | exact HB.out))) : w.heap.size ≤ gb211)); have n3_ := Aside0.mk ((by rw [hg]; exact (below_size (by repeat (first | (with_reducible first | exact HB.out | apply below_alloc | apply pw_below_drewN | apply below_drew1) | exact HB.out))) : w.heap.size ≤ gb211)); clear HB; have HB := n0_; have BK211 := n1_; have GW211 := n2_; have GE211 := n3_; clear n0_ n1_ n2_ n3_; clear hb hbox hg) | ((with_reducible refine gate_dst (N := 2) rfl ?_); refine box_event ?hg (N := 2) ?hd (cs := #[.int .i64 0, .int .i64 0, .slice none 0 0]) (t := 31) ?hr ?_; (case hd => rfl); (case hg => rfl); (case hr => first | (go_simp; done) | (go_simp; rfl)); intro gb212 hg w6 hbox hb; have n0_ := Aside0.mk (blk_below (g := gb211) (o := .cells #[.int .i64 a0_0, .int .i64 a0_1, .slice A0_2 l0_2.length c0_2] 31 (0, 0)) (by (with_reducible repeat (first | refine blk_drewN ?_ _ | refine blk_drew ?_ | refine blk_alloc ?_ _)); exact BK211.out) hb); have n1_ := Aside0.mk (below_step (by repeat (first | (with_reducible first | exact HB.out | apply below_alloc | apply pw_below_drewN | apply below_drew1 | refine below_set ?_ GE211.out) | exact HB.out)) hb); have n2_ := Aside0.mk (hbox); have n3_ := Aside0.mk ((by rw [hg]; exact (below_size (by repeat (first | (with_reducible first | exact HB.out | apply below_alloc | apply pw_below_drewN | apply below_drew1 | refine below_set ?_ GE211.out) | exact HB.out))) : w.heap.size ≤ gb212)); have n4_ := Aside0.mk ((by rw [hg]; exact (below_size (by repeat (first | (with_reducible first | exact HB.out | apply below_alloc | apply pw_below_drewN | apply below_drew1 | refine below_set ?_ GE211.out) | exact HB.out))) : w.heap.size ≤ gb212)); have n5_ := Aside0.mk ((by rw [hg]; exact Nat.ne_of_lt (blk_lt (g := gb211) (o := .cells #[.int .i64 a0_0, .int .i64 a0_1, .slice A0_2 l0_2.length c0_2] 31 (0, 0)) (by (with_reducible repeat (first | refine blk_drewN ?_ _ | refine blk_drew ?_ | refine blk_alloc ?_ _)); exact BK211.out)) : gb211 ≠ gb212)); have n6_ := Aside0.mk ((by rw [hg]; exact Nat.ne_of_gt (blk_lt (g := gb211) (o := .cells #[.int .i64 a0_0, .int .i64 a0_1, .slice A0_2 l0_2.length c0_2] 31 (0, 0)) (by (with_reducible repeat (first | refine blk_drewN ?_ _ | refine blk_drew ?_ | refine blk_alloc ?_ _)); exact BK211.out)) : gb212 ≠ gb211)); clear BK211; clear HB; have BK211 := n0_; have HB := n1_; have BK212 := n2_; have GW212 := n3_; have GE212 := n4_; have NB211_212 := n5_; have NB212_211 := n6_; clear n0_ n1_ n2_ n3_ n4_ n5_ n6_; clear hb hbox hg; have hnb7 := NB211_212.out; have hnc7 := NB212_211.out; have hcz8_0 : w6.cell? ⟨gb211, 0, none⟩ = some (.int .i64 a0_0) := (blk_cell BK211.out 0).trans rfl; have hcz8_1 : w6.cell? ⟨gb211, 1, none⟩ = some (.int .i64 a0_1) := (blk_cell BK211.out 1).trans rfl; have hcz8_2 : w6.cell? ⟨gb211, 2, none⟩ = some (.slice A0_2 l0_2.length c0_2) := (blk_cell BK211.out 2).trans rfl; have hfz8_0 := blk_frozen BK211.out 0; have hfz8_1 := blk_frozen BK211.out 1; have hfz8_2 := blk_frozen BK211.out 2) | ((with_reducible refine gate_callee (f := 60) rfl ?_); refine goesL_ (some 5) rfl rfl Try.func60 (by kernel_rfl) rfl #[.agg #[.int .i64 a0_0, .int .i64 a0_1, .slice A0_2 l0_2.length c0_2]] rfl (by (try simp only [List.map_toArray, List.map_cons, List.map_nil]); first | done | rfl | (simp only [List.length_drop, List.length_take]; rfl)) ?_; (with_reducible refine (impl_isEx.calls a0_0 a0_1 _ _ l0_2 true _ ?side1 ?side2 A2.out).mono ?_); (case side1 => repeat (first | exact (Kd.C_below HR0_2.out HB.out) | (with_reducible refine Kd.C_alloc ?_ _) | (with_reducible refine Kd.C_drewN ?_ _) | (with_reducible refine Kd.C_drew ?_))); (case side2 => exact HC0_2.out); rintro e w9 ⟨rfl, hb⟩; refine ⟨_, rfl, ?_⟩; have n0_ := Aside0.mk (blk_below (g := gb211) (o := .cells #[.int .i64 a0_0, .int .i64 a0_1, .slice A0_2 l0_2.length c0_2] 31 (0, 0)) (by (with_reducible repeat (first | refine blk_drewN ?_ _ | refine blk_drew ?_ | refine blk_alloc ?_ _)); exact BK211.out) hb); have n1_ := Aside0.mk (blk_below (g := gb212) (o := .cells #[.int .i64 0, .int .i64 0, .slice none 0 0] 31 (0, 0)) (by (with_reducible repeat (first | refine blk_drewN ?_ _ | refine blk_drew ?_ | refine blk_alloc ?_ _)); exact BK212.out) hb); have n2_ := Aside0.mk (below_step (by repeat (first | (with_reducible first | exact HB.out | apply below_alloc | apply pw_below_drewN | apply below_drew1 | refine below_set ?_ GE211.out | refine below_set ?_ GE212.out) | exact HB.out)) hb); clear BK211; clear BK212; clear HB; have BK211 := n0_; have BK212 := n1_; have HB := n2_; clear n0_ n1_ n2_; (try clear hb); (try clear hb2); (try clear hk); (try clear hi); have hcz10_0 : w9.cell? ⟨gb211, 0, none⟩ = some (.int .i64 a0_0) := (blk_cell BK211.out 0).trans rfl; have hcz10_1 : w9.cell? ⟨gb211, 1, none⟩ = some (.int .i64 a0_1) := (blk_cell BK211.out 1).trans rfl; have hcz10_2 : w9.cell? ⟨gb211, 2, none⟩ = some (.slice A0_2 l0_2.length c0_2) := (blk_cell BK211.out 2).trans rfl; have hfz10_0 := blk_frozen BK211.out 0; have hfz10_1 := blk_frozen BK211.out 1; have hfz10_2 := blk_frozen BK211.out 2) | ((with_reducible refine gate_callee (f := 122) rfl ?_); refine goesL_ (some 9) rfl rfl Try.func122 (by kernel_rfl) rfl #[.agg #[.int .i64 a0_0, .int .i64 a0_1, .slice A0_2 l0_2.length c0_2]] rfl (by (try simp only [List.map_toArray, List.map_cons, List.map_nil]); first | done | rfl | (simp only [List.length_drop, List.length_take]; rfl)) ?_; (with_reducible refine (cloneS.calls k a0_0 a0_1 _ _ l0_2 t214 t215 t216 _ ?side1 ?side2 A4.out).mono ?_); (case side1 => repeat (first | exact (Kd.C_below HR0_2.out HB.out) | (with_reducible refine Kd.C_alloc ?_ _) | (with_reducible refine Kd.C_drewN ?_ _) | (with_reducible refine Kd.C_drew ?_))); (case side2 => exact HC0_2.out); rintro e w11 ⟨v217, rfl, ho0, hb⟩; refine ⟨_, rfl, ?_⟩; have n0_ := Aside0.mk (Kd.S_lower (Kd.S_newB (Kd.S_newB ho0 (g := gb211) (o := .cells #[.int .i64 a0_0, .int .i64 a0_1, .slice A0_2 l0_2.length c0_2] 31 (0, 0)) (by (with_reducible repeat (first | refine blk_drewN ?_ _ | refine blk_drew ?_ | refine blk_alloc ?_ _)); exact BK211.out)) (g := gb212) (o := .cells #[.int .i64 0, .int .i64 0, .slice none 0 0] 31 (0, 0)) (by (with_reducible repeat (first | refine blk_drewN ?_ _ | refine blk_drew ?_ | refine blk_alloc ?_ _)); exact BK212.out)) (below_size (by repeat (first | (with_reducible first | exact HB.out | apply below_alloc | apply pw_below_drewN | apply below_drew1 | refine below_set ?_ GE211.out | refine below_set ?_ GE212.out) | exact HB.out)))); have n1_ := Aside0.mk (blk_below (g := gb211) (o := .cells #[.int .i64 a0_0, .int .i64 a0_1, .slice A0_2 l0_2.length c0_2] 31 (0, 0)) (by (with_reducible repeat (first | refine blk_drewN ?_ _ | refine blk_drew ?_ | refine blk_alloc ?_ _)); exact BK211.out) hb); have n2_ := Aside0.mk (blk_below (g := gb212) (o := .cells #[.int .i64 0, .int .i64 0, .slice none 0 0] 31 (0, 0)) (by (with_reducible repeat (first | refine blk_drewN ?_ _ | refine blk_drew ?_ | refine blk_alloc ?_ _)); exact BK212.out) hb); have n3_ := Aside0.mk (below_step (by repeat (first | (with_reducible first | exact HB.out | apply below_alloc | apply pw_below_drewN | apply below_drew1 | refine below_set ?_ GE211.out | refine below_set ?_ GE212.out) | exact HB.out)) hb); clear BK211; clear BK212; clear HB; have HO218 := n0_; have BK211 := n1_; have BK212 := n2_; have HB := n3_; clear n0_ n1_ n2_ n3_; (try clear hb); (try clear hb2); (try clear hk); (try clear hi); (try clear ho0); have hcz12_0 : w11.cell? ⟨gb212, 0, none⟩ = some (.int .i64 0) := (blk_cell BK212.out 0).trans rfl; have hcz12_1 : w11.cell? ⟨gb212, 1, none⟩ = some (.int .i64 0) := (blk_cell BK212.out 1).trans rfl; have hcz12_2 : w11.cell? ⟨gb212, 2, none⟩ = some (.slice none 0 0) := (blk_cell BK212.out 2).trans rfl; have hfz12_0 := blk_frozen BK212.out 0; have hfz12_1 := blk_frozen BK212.out 1; have hfz12_2 := blk_frozen BK212.out 2; obtain ⟨Ao13, co13, eo13⟩ := Kd.S_slice HO218.out; subst eo13))
    refine bodyPost_ret (results_ct rfl _ _ gb212 31 #[.int .i64 t214, .int .i64 t215, .slice Ao13 t216.length co13] (0, 0) _ rfl (by (with_reducible repeat (first | refine blk_drewN ?_ _ | refine blk_drew ?_ | refine blk_alloc ?_ _)); refine blk_put (cs := #[.int .i64 t214, .int .i64 t215, .slice none 0 0]) ?_ 2 _ rfl; (with_reducible repeat (first | refine blk_drewN ?_ _ | refine blk_drew ?_ | refine blk_alloc ?_ _)); refine blk_put (cs := #[.int .i64 t214, .int .i64 0, .slice none 0 0]) ?_ 1 _ rfl; (with_reducible repeat (first | refine blk_drewN ?_ _ | refine blk_drew ?_ | refine blk_alloc ?_ _)); refine blk_put (cs := #[.int .i64 0, .int .i64 0, .slice none 0 0]) ?_ 0 _ rfl; (with_reducible repeat (first | refine blk_drewN ?_ _ | refine blk_drew ?_ | refine blk_alloc ?_ _)); exact BK212.out) Try.underlying31 rfl (by kernel_rfl)) rfl ?_
    exact ⟨_, by first | rfl | (simp [errW_none, errW_some] <;> rfl) | (simp [*, errW_none, errW_some] <;> rfl), by (with_reducible repeat (first | apply Kd.S_alloc | apply Kd.S_drewN | apply Kd.S_drew)); exact Kd.S_mono (Kd.S_far (p := ⟨gb212, 2, none⟩) (Kd.S_far (p := ⟨gb212, 1, none⟩) (Kd.S_far (p := ⟨gb212, 0, none⟩) (Kd.S_mono HO218.out (fun k_ hk => (⟨hk, hk.2⟩ : _ ∧ k_ ≠ gb212))) (fun _ hk => hk.2) (.int .i64 t214)) (fun _ hk => hk.2) (.int .i64 t215)) (fun _ hk => hk.2) (.slice Ao13 t216.length co13)) (fun _ hk => trivial), by repeat (first | (with_reducible first | exact HB.out | apply below_alloc | apply pw_below_drewN | apply below_drew1 | refine below_set ?_ GE211.out | refine below_set ?_ GE212.out) | exact HB.out)⟩
  · replace c3 := Bool.eq_false_iff.mpr c3
    subst c3
    have H1 : (some (0, 0, ([] : List (S31)), 11)) = some (r1, r2, r3, r4) := by rw [if_neg (show ¬ (false = true) by decide)] at H; exact H
    clear H
    have H := H1
    clear H1
    simp only [Option.some.injEq, Prod.mk.injEq] at H
    obtain ⟨rfl, rfl, rfl, rfl⟩ := H
    go_enter Try.func81, Try.ntmps81
    go_wp2_with (first | ((with_reducible refine gate_dst (N := 1) rfl ?_); refine box_event ?hg (N := 1) ?hd (cs := #[.int .i64 a0_0, .int .i64 a0_1, .slice A0_2 l0_2.length c0_2]) (t := 31) ?hr ?_; (case hd => rfl); (case hg => rfl); (case hr => first | (go_simp; done) | (go_simp; rfl)); intro gb211 hg w14 hbox hb; have n0_ := Aside0.mk (below_step (by repeat (first | (with_reducible first | exact HB.out | apply below_alloc | apply pw_below_drewN | apply below_drew1) | exact HB.out)) hb); have n1_ := Aside0.mk (hbox); have n2_ := Aside0.mk ((by rw [hg]; exact (below_size (by repeat (first | (with_reducible first | exact HB.out | apply below_alloc | apply pw_below_drewN | apply below_drew1) | exact HB.out))) : w.heap.size ≤ gb211)); have n3_ := Aside0.mk ((by rw [hg]; exact (below_size (by repeat (first | (with_reducible first | exact HB.out | apply below_alloc | apply pw_below_drewN | apply below_drew1) | exact HB.out))) : w.heap.size ≤ gb211)); clear HB; have HB := n0_; have BK211 := n1_; have GW211 := n2_; have GE211 := n3_; clear n0_ n1_ n2_ n3_; clear hb hbox hg) | ((with_reducible refine gate_dst (N := 2) rfl ?_); refine box_event ?hg (N := 2) ?hd (cs := #[.int .i64 0, .int .i64 0, .slice none 0 0]) (t := 31) ?hr ?_; (case hd => rfl); (case hg => rfl); (case hr => first | (go_simp; done) | (go_simp; rfl)); intro gb212 hg w15 hbox hb; have n0_ := Aside0.mk (blk_below (g := gb211) (o := .cells #[.int .i64 a0_0, .int .i64 a0_1, .slice A0_2 l0_2.length c0_2] 31 (0, 0)) (by (with_reducible repeat (first | refine blk_drewN ?_ _ | refine blk_drew ?_ | refine blk_alloc ?_ _)); exact BK211.out) hb); have n1_ := Aside0.mk (below_step (by repeat (first | (with_reducible first | exact HB.out | apply below_alloc | apply pw_below_drewN | apply below_drew1 | refine below_set ?_ GE211.out) | exact HB.out)) hb); have n2_ := Aside0.mk (hbox); have n3_ := Aside0.mk ((by rw [hg]; exact (below_size (by repeat (first | (with_reducible first | exact HB.out | apply below_alloc | apply pw_below_drewN | apply below_drew1 | refine below_set ?_ GE211.out) | exact HB.out))) : w.heap.size ≤ gb212)); have n4_ := Aside0.mk ((by rw [hg]; exact (below_size (by repeat (first | (with_reducible first | exact HB.out | apply below_alloc | apply pw_below_drewN | apply below_drew1 | refine below_set ?_ GE211.out) | exact HB.out))) : w.heap.size ≤ gb212)); have n5_ := Aside0.mk ((by rw [hg]; exact Nat.ne_of_lt (blk_lt (g := gb211) (o := .cells #[.int .i64 a0_0, .int .i64 a0_1, .slice A0_2 l0_2.length c0_2] 31 (0, 0)) (by (with_reducible repeat (first | refine blk_drewN ?_ _ | refine blk_drew ?_ | refine blk_alloc ?_ _)); exact BK211.out)) : gb211 ≠ gb212)); have n6_ := Aside0.mk ((by rw [hg]; exact Nat.ne_of_gt (blk_lt (g := gb211) (o := .cells #[.int .i64 a0_0, .int .i64 a0_1, .slice A0_2 l0_2.length c0_2] 31 (0, 0)) (by (with_reducible repeat (first | refine blk_drewN ?_ _ | refine blk_drew ?_ | refine blk_alloc ?_ _)); exact BK211.out)) : gb212 ≠ gb211)); clear BK211; clear HB; have BK211 := n0_; have HB := n1_; have BK212 := n2_; have GW212 := n3_; have GE212 := n4_; have NB211_212 := n5_; have NB212_211 := n6_; clear n0_ n1_ n2_ n3_ n4_ n5_ n6_; clear hb hbox hg; have hnb16 := NB211_212.out; have hnc16 := NB212_211.out; have hcz17_0 : w15.cell? ⟨gb211, 0, none⟩ = some (.int .i64 a0_0) := (blk_cell BK211.out 0).trans rfl; have hcz17_1 : w15.cell? ⟨gb211, 1, none⟩ = some (.int .i64 a0_1) := (blk_cell BK211.out 1).trans rfl; have hcz17_2 : w15.cell? ⟨gb211, 2, none⟩ = some (.slice A0_2 l0_2.length c0_2) := (blk_cell BK211.out 2).trans rfl; have hfz17_0 := blk_frozen BK211.out 0; have hfz17_1 := blk_frozen BK211.out 1; have hfz17_2 := blk_frozen BK211.out 2) | ((with_reducible refine gate_callee (f := 60) rfl ?_); refine goesL_ (some 5) rfl rfl Try.func60 (by kernel_rfl) rfl #[.agg #[.int .i64 a0_0, .int .i64 a0_1, .slice A0_2 l0_2.length c0_2]] rfl (by (try simp only [List.map_toArray, List.map_cons, List.map_nil]); first | done | rfl | (simp only [List.length_drop, List.length_take]; rfl)) ?_; (with_reducible refine (impl_isEx.calls a0_0 a0_1 _ _ l0_2 false _ ?side1 ?side2 A2.out).mono ?_); (case side1 => repeat (first | exact (Kd.C_below HR0_2.out HB.out) | (with_reducible refine Kd.C_alloc ?_ _) | (with_reducible refine Kd.C_drewN ?_ _) | (with_reducible refine Kd.C_drew ?_))); (case side2 => exact HC0_2.out); rintro e w18 ⟨rfl, hb⟩; refine ⟨_, rfl, ?_⟩; have n0_ := Aside0.mk (blk_below (g := gb211) (o := .cells #[.int .i64 a0_0, .int .i64 a0_1, .slice A0_2 l0_2.length c0_2] 31 (0, 0)) (by (with_reducible repeat (first | refine blk_drewN ?_ _ | refine blk_drew ?_ | refine blk_alloc ?_ _)); exact BK211.out) hb); have n1_ := Aside0.mk (blk_below (g := gb212) (o := .cells #[.int .i64 0, .int .i64 0, .slice none 0 0] 31 (0, 0)) (by (with_reducible repeat (first | refine blk_drewN ?_ _ | refine blk_drew ?_ | refine blk_alloc ?_ _)); exact BK212.out) hb); have n2_ := Aside0.mk (below_step (by repeat (first | (with_reducible first | exact HB.out | apply below_alloc | apply pw_below_drewN | apply below_drew1 | refine below_set ?_ GE211.out | refine below_set ?_ GE212.out) | exact HB.out)) hb); clear BK211; clear BK212; clear HB; have BK211 := n0_; have BK212 := n1_; have HB := n2_; clear n0_ n1_ n2_; (try clear hb); (try clear hb2); (try clear hk); (try clear hi); have hcz19_0 : w18.cell? ⟨gb212, 0, none⟩ = some (.int .i64 0) := (blk_cell BK212.out 0).trans rfl; have hcz19_1 : w18.cell? ⟨gb212, 1, none⟩ = some (.int .i64 0) := (blk_cell BK212.out 1).trans rfl; have hcz19_2 : w18.cell? ⟨gb212, 2, none⟩ = some (.slice none 0 0) := (blk_cell BK212.out 2).trans rfl; have hfz19_0 := blk_frozen BK212.out 0; have hfz19_1 := blk_frozen BK212.out 1; have hfz19_2 := blk_frozen BK212.out 2))
    refine bodyPost_ret (results_ct rfl _ _ gb212 31 #[.int .i64 0, .int .i64 0, .slice none 0 0] (0, 0) _ rfl (by (with_reducible repeat (first | refine blk_drewN ?_ _ | refine blk_drew ?_ | refine blk_alloc ?_ _)); refine blk_put (cs := #[.int .i64 0, .int .i64 0, .slice none 0 0]) ?_ 2 _ rfl; (with_reducible repeat (first | refine blk_drewN ?_ _ | refine blk_drew ?_ | refine blk_alloc ?_ _)); refine blk_put (cs := #[.int .i64 0, .int .i64 0, .slice none 0 0]) ?_ 1 _ rfl; (with_reducible repeat (first | refine blk_drewN ?_ _ | refine blk_drew ?_ | refine blk_alloc ?_ _)); refine blk_put (cs := #[.int .i64 0, .int .i64 0, .slice none 0 0]) ?_ 0 _ rfl; (with_reducible repeat (first | refine blk_drewN ?_ _ | refine blk_drew ?_ | refine blk_alloc ?_ _)); exact BK212.out) Try.underlying31 rfl (by kernel_rfl)) rfl ?_
    exact ⟨_, by first | rfl | (simp [errW_none, errW_some] <;> rfl) | (simp [*, errW_none, errW_some] <;> rfl), by first | exact Kd.S_nil _ _ _ _ _ | exact Kd.N_nil _ _ _ _ _ | exact Kd.V_nil _ _ _ _ _ | exact Kd.Q_nil _ _ _ _ _ | exact Kd.S_nil _ _ _ _ _, by repeat (first | (with_reducible first | exact HB.out | apply below_alloc | apply pw_below_drewN | apply below_drew1 | refine below_set ?_ GE211.out | refine below_set ?_ GE212.out) | exact HB.out)⟩

/-! ### impl_AtMostEx: function 32 -/
def impl_AtMostEx.f (k : Nat) (a0 : Int) (l1 : List S31) : Option (Int × Int × List S31 × Int) :=
  if l1.length > 4096 then some (0, 0, [], 2) else if l1.length > 6 then some (0, 0, [], 5) else
  (impl_within.f a0 (-1) 6).bind fun t => if t = true then ((impl_areExs.f l1).bind fun u => if u = true then (if -1 ≤ a0 ∧ a0 ≤ 100 then impl_checkedEx.f k (mostE l1 a0).f0 (mostE l1 a0).f1 (mostE l1 a0).f2 else none) else some (0, 0, [], 1)) else some (0, 0, [], 5)
set_option maxHeartbeats 1600000 in
set_option maxRecDepth 100000 in
theorem atMostS.calls (k : Nat) (a0 : Int) (P1_ : Nat → Prop) (A1 : Option Addr) (c1 : Nat) (l1 : List S31) (r1 r2 : Int) (r3 : List S31) (r4 : Int) (w : World) (hs1 : Kd.V k31 31 w w.heap.size (fun k_ => P1_ k_) (.slice A1 l1.length c1) l1) (h : impl_AtMostEx.f k a0 l1 = some (r1, r2, r3, r4)) :
    Calls Try.prog 32 #[.int .i64 a0, .slice A1 l1.length c1] w fun e w' => ∃ v2_ : Value, e = .returned (.tuple #[.agg #[.int .i64 r1, .int .i64 r2, v2_], .int .i64 r4]) ∧ Kd.S kS31 31 w' w.heap.size (fun _ => True) v2_ r3 ∧ Below w.heap.size w w' := by
  have hu31 := Try.underlying31
  have HB := Aside0.mk (Below.refl w.heap.size w)
  have H1 := Aside0.mk (And.intro (Kd.V_reads' hs1).2.2 (Kd.V_reads' hs1).2.1)
  clear hs1
  unfold impl_AtMostEx.f at h
  by_cases h1 : l1.length > 4096
  · rw [if_pos h1] at h
    simp only [Option.some.injEq, Prod.mk.injEq] at h
    obtain ⟨rfl, rfl, rfl, rfl⟩ := h
    have h1b : decide (l1.length > 4096) = true := decide_eq_true h1
    go_enter Try.func32, Try.ntmps32
    go_wp2_with (first | ((with_reducible refine gate_dst (N := 4) rfl ?_); refine box_event ?hg (N := 4) ?hd (cs := #[.int .i64 0, .int .i64 0, .slice none 0 0]) (t := 31) ?hr ?_; (case hd => rfl); (case hg => rfl); (case hr => first | (go_simp; done) | (go_simp; rfl)); intro gr hgw wb_gr hbox hbb; have HR := Aside0.mk (And.intro hbox (show w.heap.size ≤ gr by rw [hgw]; exact HB.out.size)); have hbs := hbb; clear hgw hbox; have m0_ := Aside0.mk (HB.out.trans (hbs.mono HB.out.size)); clear HB; have HB := m0_; clear m0_; clear hbb hbs; have hz0 := (blk_cell HR.out.1 0).trans (show _ = some (.int .i64 0) from rfl); have hz1 := (blk_cell HR.out.1 1).trans (show _ = some (.int .i64 0) from rfl); have hz2 := (blk_cell HR.out.1 2).trans (show _ = some (.slice none 0 0) from rfl); have hzf0 := blk_frozen HR.out.1 0; have hzf1 := blk_frozen HR.out.1 1; have hzf2 := blk_frozen HR.out.1 2))
    have hput := box_put3 (a := .int .i64 0) (b := .int .i64 0) (v := .slice none 0 0) HR.out.1
    refine bodyPost_ret (results_ct rfl _ _ gr 31 #[.int .i64 0, .int .i64 0, .slice none 0 0] (0, 0) _ rfl hput.1 Try.underlying31 rfl (by kernel_rfl)) rfl ?_
    exact ⟨_, rfl, Kd.S_nil _ _ _ _ _, hput.2.below _ HB.out HR.out.2⟩
  rw [if_neg h1] at h
  have h1b : decide (l1.length > 4096) = false := decide_eq_false h1
  by_cases h2 : l1.length > 6
  · rw [if_pos h2] at h
    simp only [Option.some.injEq, Prod.mk.injEq] at h
    obtain ⟨rfl, rfl, rfl, rfl⟩ := h
    have h2b : decide (l1.length > 6) = true := decide_eq_true h2
    go_enter Try.func32, Try.ntmps32
    go_wp2_with (first | ((with_reducible refine gate_dst (N := 4) rfl ?_); refine box_event ?hg (N := 4) ?hd (cs := #[.int .i64 0, .int .i64 0, .slice none 0 0]) (t := 31) ?hr ?_; (case hd => rfl); (case hg => rfl); (case hr => first | (go_simp; done) | (go_simp; rfl)); intro gr hgw wb_gr hbox hbb; have HR := Aside0.mk (And.intro hbox (show w.heap.size ≤ gr by rw [hgw]; exact HB.out.size)); have hbs := hbb; clear hgw hbox; have m0_ := Aside0.mk (HB.out.trans (hbs.mono HB.out.size)); clear HB; have HB := m0_; clear m0_; clear hbb hbs; have hz0 := (blk_cell HR.out.1 0).trans (show _ = some (.int .i64 0) from rfl); have hz1 := (blk_cell HR.out.1 1).trans (show _ = some (.int .i64 0) from rfl); have hz2 := (blk_cell HR.out.1 2).trans (show _ = some (.slice none 0 0) from rfl); have hzf0 := blk_frozen HR.out.1 0; have hzf1 := blk_frozen HR.out.1 1; have hzf2 := blk_frozen HR.out.1 2))
    have hput := box_put3 (a := .int .i64 0) (b := .int .i64 0) (v := .slice none 0 0) HR.out.1
    refine bodyPost_ret (results_ct rfl _ _ gr 31 #[.int .i64 0, .int .i64 0, .slice none 0 0] (0, 0) _ rfl hput.1 Try.underlying31 rfl (by kernel_rfl)) rfl ?_
    exact ⟨_, rfl, Kd.S_nil _ _ _ _ _, hput.2.below _ HB.out HR.out.2⟩
  rw [if_neg h2] at h
  have h2b : decide (l1.length > 6) = false := decide_eq_false h2
  obtain ⟨t, hwi, h⟩ := Option.bind_eq_some_iff.1 h
  cases t with
  | false =>
    rw [if_neg Bool.false_ne_true] at h
    simp only [Option.some.injEq, Prod.mk.injEq] at h
    obtain ⟨rfl, rfl, rfl, rfl⟩ := h
    go_enter Try.func32, Try.ntmps32
    go_wp2_with (first | ((with_reducible refine gate_dst (N := 4) rfl ?_); refine box_event ?hg (N := 4) ?hd (cs := #[.int .i64 0, .int .i64 0, .slice none 0 0]) (t := 31) ?hr ?_; (case hd => rfl); (case hg => rfl); (case hr => first | (go_simp; done) | (go_simp; rfl)); intro gr hgw wb_gr hbox hbb; have HR := Aside0.mk (And.intro hbox (show w.heap.size ≤ gr by rw [hgw]; exact HB.out.size)); have hbs := hbb; clear hgw hbox; have m0_ := Aside0.mk (HB.out.trans (hbs.mono HB.out.size)); clear HB; have HB := m0_; clear m0_; clear hbb hbs; have hz0 := (blk_cell HR.out.1 0).trans (show _ = some (.int .i64 0) from rfl); have hz1 := (blk_cell HR.out.1 1).trans (show _ = some (.int .i64 0) from rfl); have hz2 := (blk_cell HR.out.1 2).trans (show _ = some (.slice none 0 0) from rfl); have hzf0 := blk_frozen HR.out.1 0; have hzf1 := blk_frozen HR.out.1 1; have hzf2 := blk_frozen HR.out.1 2) | (go_at_call 79; (with_reducible refine (impl_within.calls a0 (-1) 6 _ _ hwi).mono ?_); rintro e w1 ⟨rfl, hd⟩; have hb := hd.below; clear hd; clear hz0 hz1 hz2 hzf0 hzf1 hzf2; have m0_ := Aside0.mk (HB.out.trans (hb.mono HB.out.size)); have m1_ := Aside0.mk (And.intro (blk_below HR.out.1 hb) HR.out.2); clear HB HR; have HB := m0_; have HR := m1_; clear m0_ m1_; clear hb; have hz0 := (blk_cell HR.out.1 0).trans (show _ = some (.int .i64 0) from rfl); have hz1 := (blk_cell HR.out.1 1).trans (show _ = some (.int .i64 0) from rfl); have hz2 := (blk_cell HR.out.1 2).trans (show _ = some (.slice none 0 0) from rfl); have hzf0 := blk_frozen HR.out.1 0; have hzf1 := blk_frozen HR.out.1 1; have hzf2 := blk_frozen HR.out.1 2))
    have hput := box_put3 (a := .int .i64 0) (b := .int .i64 0) (v := .slice none 0 0) HR.out.1
    refine bodyPost_ret (results_ct rfl _ _ gr 31 #[.int .i64 0, .int .i64 0, .slice none 0 0] (0, 0) _ rfl hput.1 Try.underlying31 rfl (by kernel_rfl)) rfl ?_
    exact ⟨_, rfl, Kd.S_nil _ _ _ _ _, hput.2.below _ HB.out HR.out.2⟩
  | true =>
    rw [if_pos rfl] at h
    obtain ⟨u, har, h⟩ := Option.bind_eq_some_iff.1 h
    cases u with
    | false =>
      rw [if_neg Bool.false_ne_true] at h
      simp only [Option.some.injEq, Prod.mk.injEq] at h
      obtain ⟨rfl, rfl, rfl, rfl⟩ := h
      go_enter Try.func32, Try.ntmps32
      go_wp2_with (first | ((with_reducible refine gate_dst (N := 4) rfl ?_); refine box_event ?hg (N := 4) ?hd (cs := #[.int .i64 0, .int .i64 0, .slice none 0 0]) (t := 31) ?hr ?_; (case hd => rfl); (case hg => rfl); (case hr => first | (go_simp; done) | (go_simp; rfl)); intro gr hgw wb_gr hbox hbb; have HR := Aside0.mk (And.intro hbox (show w.heap.size ≤ gr by rw [hgw]; exact HB.out.size)); have hbs := hbb; clear hgw hbox; have m0_ := Aside0.mk (HB.out.trans (hbs.mono HB.out.size)); clear HB; have HB := m0_; clear m0_; clear hbb hbs; have hz0 := (blk_cell HR.out.1 0).trans (show _ = some (.int .i64 0) from rfl); have hz1 := (blk_cell HR.out.1 1).trans (show _ = some (.int .i64 0) from rfl); have hz2 := (blk_cell HR.out.1 2).trans (show _ = some (.slice none 0 0) from rfl); have hzf0 := blk_frozen HR.out.1 0; have hzf1 := blk_frozen HR.out.1 1; have hzf2 := blk_frozen HR.out.1 2) | (go_at_call 79; (with_reducible refine (impl_within.calls a0 (-1) 6 _ _ hwi).mono ?_); rintro e w1 ⟨rfl, hd⟩; have hb := hd.below; clear hd; clear hz0 hz1 hz2 hzf0 hzf1 hzf2; have m0_ := Aside0.mk (HB.out.trans (hb.mono HB.out.size)); have m1_ := Aside0.mk (And.intro (blk_below HR.out.1 hb) HR.out.2); clear HB HR; have HB := m0_; have HR := m1_; clear m0_ m1_; clear hb; have hz0 := (blk_cell HR.out.1 0).trans (show _ = some (.int .i64 0) from rfl); have hz1 := (blk_cell HR.out.1 1).trans (show _ = some (.int .i64 0) from rfl); have hz2 := (blk_cell HR.out.1 2).trans (show _ = some (.slice none 0 0) from rfl); have hzf0 := blk_frozen HR.out.1 0; have hzf1 := blk_frozen HR.out.1 1; have hzf2 := blk_frozen HR.out.1 2) | (go_at_call 80; (with_reducible refine (impl_areExs.calls A1 c1 l1 _ _ (Kd.C_below H1.out.1 HB.out) H1.out.2 har).mono ?_); rintro e w2 ⟨rfl, hb⟩; clear hz0 hz1 hz2 hzf0 hzf1 hzf2; have m0_ := Aside0.mk (HB.out.trans (hb.mono HB.out.size)); have m1_ := Aside0.mk (And.intro (blk_below HR.out.1 hb) HR.out.2); clear HB HR; have HB := m0_; have HR := m1_; clear m0_ m1_; clear hb; have hz0 := (blk_cell HR.out.1 0).trans (show _ = some (.int .i64 0) from rfl); have hz1 := (blk_cell HR.out.1 1).trans (show _ = some (.int .i64 0) from rfl); have hz2 := (blk_cell HR.out.1 2).trans (show _ = some (.slice none 0 0) from rfl); have hzf0 := blk_frozen HR.out.1 0; have hzf1 := blk_frozen HR.out.1 1; have hzf2 := blk_frozen HR.out.1 2))
      have hput := box_put3 (a := .int .i64 0) (b := .int .i64 0) (v := .slice none 0 0) HR.out.1
      refine bodyPost_ret (results_ct rfl _ _ gr 31 #[.int .i64 0, .int .i64 0, .slice none 0 0] (0, 0) _ rfl hput.1 Try.underlying31 rfl (by kernel_rfl)) rfl ?_
      exact ⟨_, rfl, Kd.S_nil _ _ _ _ _, hput.2.below _ HB.out HR.out.2⟩
    | true =>
      rw [if_pos rfl] at h
      by_cases hq : -1 ≤ a0 ∧ a0 ≤ 100
      · rw [if_pos hq] at h
        have HQ := Aside0.mk hq
        clear hq
        go_enter Try.func32, Try.ntmps32
        go_wp2_with (first | ((with_reducible refine gate_dst (N := 4) rfl ?_); refine box_event ?hg (N := 4) ?hd (cs := #[.int .i64 0, .int .i64 0, .slice none 0 0]) (t := 31) ?hr ?_; (case hd => rfl); (case hg => rfl); (case hr => first | (go_simp; done) | (go_simp; rfl)); intro gr hgw wb_gr hbox hbb; have HR := Aside0.mk (And.intro hbox (show w.heap.size ≤ gr by rw [hgw]; exact HB.out.size)); have hbs := hbb; clear hgw hbox; have m0_ := Aside0.mk (HB.out.trans (hbs.mono HB.out.size)); clear HB; have HB := m0_; clear m0_; clear hbb hbs; have hz0 := (blk_cell HR.out.1 0).trans (show _ = some (.int .i64 0) from rfl); have hz1 := (blk_cell HR.out.1 1).trans (show _ = some (.int .i64 0) from rfl); have hz2 := (blk_cell HR.out.1 2).trans (show _ = some (.slice none 0 0) from rfl); have hzf0 := blk_frozen HR.out.1 0; have hzf1 := blk_frozen HR.out.1 1; have hzf2 := blk_frozen HR.out.1 2) | (go_at_call 79; (with_reducible refine (impl_within.calls a0 (-1) 6 _ _ hwi).mono ?_); rintro e w1 ⟨rfl, hd⟩; have hb := hd.below; clear hd; clear hz0 hz1 hz2 hzf0 hzf1 hzf2; have m0_ := Aside0.mk (HB.out.trans (hb.mono HB.out.size)); have m1_ := Aside0.mk (And.intro (blk_below HR.out.1 hb) HR.out.2); clear HB HR; have HB := m0_; have HR := m1_; clear m0_ m1_; clear hb; have hz0 := (blk_cell HR.out.1 0).trans (show _ = some (.int .i64 0) from rfl); have hz1 := (blk_cell HR.out.1 1).trans (show _ = some (.int .i64 0) from rfl); have hz2 := (blk_cell HR.out.1 2).trans (show _ = some (.slice none 0 0) from rfl); have hzf0 := blk_frozen HR.out.1 0; have hzf1 := blk_frozen HR.out.1 1; have hzf2 := blk_frozen HR.out.1 2) | (go_at_call 80; (with_reducible refine (impl_areExs.calls A1 c1 l1 _ _ (Kd.C_below H1.out.1 HB.out) H1.out.2 har).mono ?_); rintro e w2 ⟨rfl, hb⟩; clear hz0 hz1 hz2 hzf0 hzf1 hzf2; have m0_ := Aside0.mk (HB.out.trans (hb.mono HB.out.size)); have m1_ := Aside0.mk (And.intro (blk_below HR.out.1 hb) HR.out.2); clear HB HR; have HB := m0_; have HR := m1_; clear m0_ m1_; clear hb; have hz0 := (blk_cell HR.out.1 0).trans (show _ = some (.int .i64 0) from rfl); have hz1 := (blk_cell HR.out.1 1).trans (show _ = some (.int .i64 0) from rfl); have hz2 := (blk_cell HR.out.1 2).trans (show _ = some (.slice none 0 0) from rfl); have hzf0 := blk_frozen HR.out.1 0; have hzf1 := blk_frozen HR.out.1 1; have hzf2 := blk_frozen HR.out.1 2) | (go_at_call 82; (with_reducible refine (most_any l1 a0 _ _ (fun k_ => k_ ≠ gr) HQ.out.1 HQ.out.2 (EXs.move (EXs.came H1.out.1 H1.out.2 (fun k_ hk_ => Nat.ne_of_lt (Nat.lt_of_lt_of_le hk_ HR.out.2))) HB.out) (fun k_ hk_ => Nat.ne_of_gt (Nat.lt_of_lt_of_le (blk_lt HR.out.1) hk_))).mono ?_); rintro e w3 ⟨u_, rfl, hu, hb⟩; obtain ⟨Az, cz, rfl, lz, Fz⟩ := hu; have HZ := Aside0.mk (And.intro lz Fz); clear lz Fz; clear hz0 hz1 hz2 hzf0 hzf1 hzf2; have m0_ := Aside0.mk (HB.out.trans (hb.mono HB.out.size)); have m1_ := Aside0.mk (And.intro (blk_below HR.out.1 hb) HR.out.2); clear HB HR; have HB := m0_; have HR := m1_; clear m0_ m1_; clear hb) | (go_at_call 81; (with_reducible refine (checkedS.calls k (mostE l1 a0).f0 (mostE l1 a0).f1 Az cz (mostE l1 a0).f2 _ _ _ _ _ (Kd.F_now HZ.out.2) HZ.out.1 h).mono ?_); rintro e w4 ⟨v4, rfl, hS, hb⟩; have HS := Aside0.mk (show Kd.S kS31 31 w4 w.heap.size (fun k_ => k_ ≠ gr) v4 r3 from Kd.S_lower (Kd.S_mono (Kd.S_bound hS) (fun k_ hk_ => Nat.ne_of_gt (Nat.lt_of_lt_of_le (blk_lt HR.out.1) hk_.2.1))) HB.out.size); obtain ⟨A4, c4, e4⟩ := Kd.S_slice hS; subst e4; clear hS; have m0_ := Aside0.mk (HB.out.trans (hb.mono HB.out.size)); have m1_ := Aside0.mk (And.intro (blk_below HR.out.1 hb) HR.out.2); clear HB HR; have HB := m0_; have HR := m1_; clear m0_ m1_; clear hb; have hz0 := (blk_cell HR.out.1 0).trans (show _ = some (.int .i64 0) from rfl); have hz1 := (blk_cell HR.out.1 1).trans (show _ = some (.int .i64 0) from rfl); have hz2 := (blk_cell HR.out.1 2).trans (show _ = some (.slice none 0 0) from rfl); have hzf0 := blk_frozen HR.out.1 0; have hzf1 := blk_frozen HR.out.1 1; have hzf2 := blk_frozen HR.out.1 2))
        have hput := box_put3 (a := .int .i64 r1) (b := .int .i64 r2) (v := .slice A4 r3.length c4) HR.out.1
        refine bodyPost_ret (results_ct rfl _ _ gr 31 #[.int .i64 r1, .int .i64 r2, .slice A4 r3.length c4] (0, 0) _ rfl hput.1 Try.underlying31 rfl (by kernel_rfl)) rfl ?_
        exact ⟨_, rfl, Kd.S_mono (Kd.S_kept HS.out hput.2.kept (fun k_ hk_ hs_ => hk_ hs_)) (fun _ _ => trivial), hput.2.below _ HB.out HR.out.2⟩
      · rw [if_neg hq] at h
        cases h

/-! ### laws_heldExS: function 52 -/
mutual
def laws_heldExS.l0 : Nat → List (S31) → Int → Int → Option (Int)
  | 0, _, _, _ => none
  | k + 1, x0, x1, x5 => if x5 < (x0.length : Int) then (if 0 ≤ x5 then (if ((rd_T31 x0 x5).f0) = x1 then (if ((rd_T31 x0 x5).f1) = (wrap64 (x1 + 1)) then ((laws_heldExS.f k ((rd_T31 x0 x5).f2) (wrap64 ((wrap64 (x1 + 1)) + 1))).bind fun t138 => (if t138 < 0 then (some (-1)) else (laws_heldExS.l0 k x0 t138 (wrap64 (x5 + 1))))) else (some (-1))) else (some (-1))) else (none)) else (some x1)
def laws_heldExS.f : Nat → List (S31) → Int → Option (Int)
  | 0, _, _ => none
  | k + 1, l0, a1 => laws_heldExS.l0 k l0 a1 0
end
theorem laws_heldExS.mono_l : ∀ k, (∀ y0 y1, LeO (laws_heldExS.f k y0 y1) (laws_heldExS.f (k + 1) y0 y1)) ∧ (∀ y0 y1 y2, LeO (laws_heldExS.l0 k y0 y1 y2) (laws_heldExS.l0 (k + 1) y0 y1 y2))
  | 0 => ⟨fun _ _ r h => by simp [laws_heldExS.f] at h, fun _ _ _ r h => by simp [laws_heldExS.l0] at h⟩
  | k + 1 => by
    obtain ⟨ih0, ih1⟩ := laws_heldExS.mono_l k
    refine ⟨?_, ?_⟩
    · intro y0 y1
      unfold laws_heldExS.f
      repeat' first
      | (with_reducible exact ih0 _ _)
      | (with_reducible exact ih1 _ _ _)
      | (with_reducible exact LeO.refl _)
      | (with_reducible exact LeO.none _)
      | (with_reducible refine LeO.ite ?_ ?_)
      | (with_reducible refine LeO.bind ?_ (fun _ => ?_))
      | exact ih0 _ _
      | exact ih1 _ _ _
      | exact LeO.none _
      | refine LeO.ite ?_ ?_
      | refine LeO.bind ?_ (fun _ => ?_)
    · intro y0 y1 y2
      unfold laws_heldExS.l0
      repeat' first
      | (with_reducible exact ih0 _ _)
      | (with_reducible exact ih1 _ _ _)
      | (with_reducible exact LeO.refl _)
      | (with_reducible exact LeO.none _)
      | (with_reducible refine LeO.ite ?_ ?_)
      | (with_reducible refine LeO.bind ?_ (fun _ => ?_))
      | exact ih0 _ _
      | exact ih1 _ _ _
      | exact LeO.none _
      | refine LeO.ite ?_ ?_
      | refine LeO.bind ?_ (fun _ => ?_)
theorem laws_heldExS.mono : ∀ a0 a1 k, LeO (laws_heldExS.f k a0 a1) (laws_heldExS.f (k + 1) a0 a1) := by
  intro a0 a1 k
  obtain ⟨ih0, ih1⟩ := laws_heldExS.mono_l k
  exact ih0 a0 a1
set_option maxHeartbeats 8000000 in
set_option maxRecDepth 100000 in
theorem laws_heldExS.calls (k : Nat) : ∀ (A0 : Option Addr) (c0 : Nat) (l0 : List (S31)) (a1 : Int) (r : Int) (w : World) (hr0 : Kd.C k31 w A0 l0.length l0) (hc0 : l0.length ≤ c0) (h : laws_heldExS.f k l0 a1 = some r),
    Calls Try.prog 52 #[.slice A0 l0.length c0, .int .i64 a1] w fun e w' => e = .returned (.int .i64 r) ∧ Drawn0 w w' := by
  induction k using Nat.strongRecOn with
  | _ k ih =>
  intro A0 c0 l0 a1 r w hr0 hc0 h
  cases k with
  | zero => exact absurd h (by simp [laws_heldExS.f])
  | succ k =>
  simp only [laws_heldExS.f] at h
  have HR0 := Aside0.mk hr0
  have HC0 := Aside0.mk hc0
  clear hr0 hc0
  have H : (laws_heldExS.l0 k l0 a1 0) = some r := h
  clear h
  have H' := Aside0.mk H
  clear H
  go_enter Try.func52, Try.ntmps52
  go_wp2
  go_loopg [1, 5] k (fun kq v1 v5 w' => ∃ (x1_1 : Int) (x5_1 : Int), v1 = .int .i64 x1_1 ∧ v5 = .int .i64 x5_1 ∧ Aside0 (laws_heldExS.l0 kq l0 x1_1 x5_1 = some r) ∧ Aside0 (kq ≤ k) ∧ Drawn0 w w')
  case atStart => exact ⟨(a1), (0), (by first | rfl | (simp; done) | (simp [*]; done)), (by first | rfl | (simp; done) | (simp [*]; done)), H', ⟨Nat.le_refl _⟩, by repeat (first | exact Drawn0.refl _ | apply Drawn0.step)⟩
  case round =>
    clear H'
    try clear p2
    obtain ⟨x1_1, x5_1, rfl, rfl, HA, HK1, ⟨m1, rfl⟩⟩ := hrel
    cases gk with
    | zero => exact absurd HA.out (by simp [laws_heldExS.l0])
    | succ k1 =>
      have H := HA.out
      clear HA
      simp only [laws_heldExS.l0] at H
      by_cases c3 : x5_1 < (l0.length : Int)
      · rw [if_pos c3] at H
        have c3b0 : decide (x5_1 < (l0.length : Int)) = true := decide_eq_true c3
        clear c3
        by_cases c4 : 0 ≤ x5_1
        · rw [if_pos c4] at H
          have c4b0 : decide (0 ≤ x5_1) = true := decide_eq_true c4
          clear c4
          by_cases c5 : ((rd_T31 l0 x5_1).f0) = x1_1
          · rw [if_pos c5] at H
            have c5b0 : (((rd_T31 l0 x5_1).f0) == x1_1) = true := beq_iff_eq.mpr c5
            have c5b1 : (((rd_T31 l0 x5_1).f0) != x1_1) = false := bne_eq_false_iff_eq.mpr c5
            clear c5
            by_cases c6 : ((rd_T31 l0 x5_1).f1) = (wrap64 (x1_1 + 1))
            · rw [if_pos c6] at H
              have c6b0 : (((rd_T31 l0 x5_1).f1) == (wrap64 (x1_1 + 1))) = true := beq_iff_eq.mpr c6
              have c6b1 : (((rd_T31 l0 x5_1).f1) != (wrap64 (x1_1 + 1))) = false := bne_eq_false_iff_eq.mpr c6
              clear c6
              replace H := Option.bind_eq_some_iff.mp H
              obtain ⟨t138, A70, H⟩ := H
              replace H : (if t138 < 0 then (some (-1)) else (laws_heldExS.l0 k1 l0 t138 (wrap64 (x5_1 + 1)))) = some r := H
              have A7 := Aside0.mk A70
              clear A70
              by_cases c8 : t138 < 0
              · rw [if_pos c8] at H
                have c8b0 : decide (t138 < 0) = true := decide_eq_true c8
                clear c8
                obtain rfl := Option.some.inj H
                have p135 : 0 ≤ (x5_1 : Int) := of_decide_eq_true (by first | (with_reducible assumption) | assumption)
                have q135 : x5_1 < (l0.length : Int) := of_decide_eq_true (by first | (with_reducible assumption) | assumption)
                obtain ⟨ad135, A135_2, c135_2, e135, hx135_0, hx135_1, hx135_2, hl135_2, hi135_2⟩ := at_T31 HR0.out x5_1 p135 q135
                cases e135
                have HR135_2 := Aside0.mk hi135_2
                have HC135_2 := Aside0.mk hl135_2
                clear hi135_2 hl135_2
                replace p135 := eq_true p135
                replace q135 := eq_true q135
                have p136 : 0 ≤ (x5_1 : Int) := of_decide_eq_true (by first | (with_reducible assumption) | assumption)
                have q136 : x5_1 < (l0.length : Int) := of_decide_eq_true (by first | (with_reducible assumption) | assumption)
                obtain ⟨ad136, A136_2, c136_2, e136, hx136_0, hx136_1, hx136_2, hl136_2, hi136_2⟩ := at_T31 HR0.out x5_1 p136 q136
                obtain rfl : ad135 = ad136 := (by injection e136)
                have HR136_2 := Aside0.mk hi136_2
                have HC136_2 := Aside0.mk hl136_2
                clear hi136_2 hl136_2
                replace p136 := eq_true p136
                replace q136 := eq_true q136
                have ea_ := Option.some.inj (hx135_2.symm.trans hx136_2)
                injection ea_ with ea_ en_ ec_
                subst ea_
                subst ec_
                clear en_
                have p137 : 0 ≤ (x5_1 : Int) := of_decide_eq_true (by first | (with_reducible assumption) | assumption)
                have q137 : x5_1 < (l0.length : Int) := of_decide_eq_true (by first | (with_reducible assumption) | assumption)
                obtain ⟨ad137, A137_2, c137_2, e137, hx137_0, hx137_1, hx137_2, hl137_2, hi137_2⟩ := at_T31 HR0.out x5_1 p137 q137
                obtain rfl : ad135 = ad137 := (by injection e137)
                have HR137_2 := Aside0.mk hi137_2
                have HC137_2 := Aside0.mk hl137_2
                clear hi137_2 hl137_2
                replace p137 := eq_true p137
                replace q137 := eq_true q137
                have ea_ := Option.some.inj (hx135_2.symm.trans hx137_2)
                injection ea_ with ea_ en_ ec_
                subst ea_
                subst ec_
                clear en_
                go_wp2_with (first | ((with_reducible refine gate_callee (f := 52) rfl ?_); refine goesL_ (some 36) rfl rfl Try.func52 (by kernel_rfl) rfl #[.slice A135_2 ((rd_T31 l0 x5_1).f2).length c135_2, .int .i64 (wrap64 ((wrap64 (x1_1 + 1)) + 1))] rfl (by (try simp only [List.map_toArray, List.map_cons, List.map_nil]); first | done | rfl | (simp only [List.length_drop, List.length_take]; rfl)) ?_; (with_reducible refine (ih k1 (by have := HK1.out; omega) _ _ ((rd_T31 l0 x5_1).f2) (wrap64 ((wrap64 (x1_1 + 1)) + 1)) t138 _ ?side1 ?side2 A7.out).mono ?_); (case side1 => repeat (first | exact HR137_2.out | (with_reducible refine Kd.C_alloc ?_ _) | (with_reducible refine Kd.C_drewN ?_ _) | (with_reducible refine Kd.C_drew ?_))); (case side2 => exact HC137_2.out); rintro e w' ⟨rfl, ⟨nd, rfl⟩⟩; refine ⟨_, rfl, ?_⟩))
                go_ret
                exact ⟨by first | rfl | (simp; done) | (simp [*]; done), by repeat (first | exact Drawn0.refl _ | apply Drawn0.step)⟩
              · rw [if_neg c8] at H
                have c8b0 : decide (t138 < 0) = false := decide_eq_false c8
                clear c8
                have H' := Aside0.mk H
                clear H
                have p135 : 0 ≤ (x5_1 : Int) := of_decide_eq_true (by first | (with_reducible assumption) | assumption)
                have q135 : x5_1 < (l0.length : Int) := of_decide_eq_true (by first | (with_reducible assumption) | assumption)
                obtain ⟨ad135, A135_2, c135_2, e135, hx135_0, hx135_1, hx135_2, hl135_2, hi135_2⟩ := at_T31 HR0.out x5_1 p135 q135
                cases e135
                have HR135_2 := Aside0.mk hi135_2
                have HC135_2 := Aside0.mk hl135_2
                clear hi135_2 hl135_2
                replace p135 := eq_true p135
                replace q135 := eq_true q135
                have p136 : 0 ≤ (x5_1 : Int) := of_decide_eq_true (by first | (with_reducible assumption) | assumption)
                have q136 : x5_1 < (l0.length : Int) := of_decide_eq_true (by first | (with_reducible assumption) | assumption)
                obtain ⟨ad136, A136_2, c136_2, e136, hx136_0, hx136_1, hx136_2, hl136_2, hi136_2⟩ := at_T31 HR0.out x5_1 p136 q136
                obtain rfl : ad135 = ad136 := (by injection e136)
                have HR136_2 := Aside0.mk hi136_2
                have HC136_2 := Aside0.mk hl136_2
                clear hi136_2 hl136_2
                replace p136 := eq_true p136
                replace q136 := eq_true q136
                have ea_ := Option.some.inj (hx135_2.symm.trans hx136_2)
                injection ea_ with ea_ en_ ec_
                subst ea_
                subst ec_
                clear en_
                have p137 : 0 ≤ (x5_1 : Int) := of_decide_eq_true (by first | (with_reducible assumption) | assumption)
                have q137 : x5_1 < (l0.length : Int) := of_decide_eq_true (by first | (with_reducible assumption) | assumption)
                obtain ⟨ad137, A137_2, c137_2, e137, hx137_0, hx137_1, hx137_2, hl137_2, hi137_2⟩ := at_T31 HR0.out x5_1 p137 q137
                obtain rfl : ad135 = ad137 := (by injection e137)
                have HR137_2 := Aside0.mk hi137_2
                have HC137_2 := Aside0.mk hl137_2
                clear hi137_2 hl137_2
                replace p137 := eq_true p137
                replace q137 := eq_true q137
                have ea_ := Option.some.inj (hx135_2.symm.trans hx137_2)
                injection ea_ with ea_ en_ ec_
                subst ea_
                subst ec_
                clear en_
                go_wp2_with (first | ((with_reducible refine gate_callee (f := 52) rfl ?_); refine goesL_ (some 36) rfl rfl Try.func52 (by kernel_rfl) rfl #[.slice A135_2 ((rd_T31 l0 x5_1).f2).length c135_2, .int .i64 (wrap64 ((wrap64 (x1_1 + 1)) + 1))] rfl (by (try simp only [List.map_toArray, List.map_cons, List.map_nil]); first | done | rfl | (simp only [List.length_drop, List.length_take]; rfl)) ?_; (with_reducible refine (ih k1 (by have := HK1.out; omega) _ _ ((rd_T31 l0 x5_1).f2) (wrap64 ((wrap64 (x1_1 + 1)) + 1)) t138 _ ?side1 ?side2 A7.out).mono ?_); (case side1 => repeat (first | exact HR137_2.out | (with_reducible refine Kd.C_alloc ?_ _) | (with_reducible refine Kd.C_drewN ?_ _) | (with_reducible refine Kd.C_drew ?_))); (case side2 => exact HC137_2.out); rintro e w' ⟨rfl, ⟨nd, rfl⟩⟩; refine ⟨_, rfl, ?_⟩))
                go_roundg k1
                case measure => have := HK1.out; omega
                case rel => exact ⟨(t138), (wrap64 (x5_1 + 1)), (by first | rfl | (simp; done) | (simp [*]; done)), (by first | rfl | (simp; done) | (simp [*]; done)), H', ⟨by have := HK1.out; omega⟩, by repeat (first | exact Drawn0.refl _ | apply Drawn0.step)⟩
            · rw [if_neg c6] at H
              have c6b0 : (((rd_T31 l0 x5_1).f1) == (wrap64 (x1_1 + 1))) = false := beq_eq_false_iff_ne.mpr c6
              have c6b1 : (((rd_T31 l0 x5_1).f1) != (wrap64 (x1_1 + 1))) = true := bne_iff_ne.mpr c6
              obtain rfl := Option.some.inj H
              have p135 : 0 ≤ (x5_1 : Int) := of_decide_eq_true (by first | (with_reducible assumption) | assumption)
              have q135 : x5_1 < (l0.length : Int) := of_decide_eq_true (by first | (with_reducible assumption) | assumption)
              obtain ⟨ad135, A135_2, c135_2, e135, hx135_0, hx135_1, hx135_2, hl135_2, hi135_2⟩ := at_T31 HR0.out x5_1 p135 q135
              cases e135
              have HR135_2 := Aside0.mk hi135_2
              have HC135_2 := Aside0.mk hl135_2
              clear hi135_2 hl135_2
              replace p135 := eq_true p135
              replace q135 := eq_true q135
              have p136 : 0 ≤ (x5_1 : Int) := of_decide_eq_true (by first | (with_reducible assumption) | assumption)
              have q136 : x5_1 < (l0.length : Int) := of_decide_eq_true (by first | (with_reducible assumption) | assumption)
              obtain ⟨ad136, A136_2, c136_2, e136, hx136_0, hx136_1, hx136_2, hl136_2, hi136_2⟩ := at_T31 HR0.out x5_1 p136 q136
              obtain rfl : ad135 = ad136 := (by injection e136)
              have HR136_2 := Aside0.mk hi136_2
              have HC136_2 := Aside0.mk hl136_2
              clear hi136_2 hl136_2
              replace p136 := eq_true p136
              replace q136 := eq_true q136
              have ea_ := Option.some.inj (hx135_2.symm.trans hx136_2)
              injection ea_ with ea_ en_ ec_
              subst ea_
              subst ec_
              clear en_
              go_wp2
              go_ret
              exact ⟨by first | rfl | (simp; done) | (simp [*]; done), by repeat (first | exact Drawn0.refl _ | apply Drawn0.step)⟩
          · rw [if_neg c5] at H
            have c5b0 : (((rd_T31 l0 x5_1).f0) == x1_1) = false := beq_eq_false_iff_ne.mpr c5
            have c5b1 : (((rd_T31 l0 x5_1).f0) != x1_1) = true := bne_iff_ne.mpr c5
            obtain rfl := Option.some.inj H
            have p135 : 0 ≤ (x5_1 : Int) := of_decide_eq_true (by first | (with_reducible assumption) | assumption)
            have q135 : x5_1 < (l0.length : Int) := of_decide_eq_true (by first | (with_reducible assumption) | assumption)
            obtain ⟨ad135, A135_2, c135_2, e135, hx135_0, hx135_1, hx135_2, hl135_2, hi135_2⟩ := at_T31 HR0.out x5_1 p135 q135
            cases e135
            have HR135_2 := Aside0.mk hi135_2
            have HC135_2 := Aside0.mk hl135_2
            clear hi135_2 hl135_2
            replace p135 := eq_true p135
            replace q135 := eq_true q135
            go_wp2
            go_ret
            exact ⟨by first | rfl | (simp; done) | (simp [*]; done), by repeat (first | exact Drawn0.refl _ | apply Drawn0.step)⟩
        · rw [if_neg c4] at H
          exact absurd H (by simp)
      · rw [if_neg c3] at H
        have c3b0 : decide (x5_1 < (l0.length : Int)) = false := decide_eq_false c3
        clear c3
        obtain rfl := Option.some.inj H
        go_wp2
        go_ret
        exact ⟨by first | rfl | (simp; done) | (simp [*]; done), by repeat (first | exact Drawn0.refl _ | apply Drawn0.step)⟩

/-! ### laws_heldEx: function 36 -/
def laws_heldEx.f (k : Nat) (a0_0 : Int) (a0_1 : Int) (l0_2 : List (S31)) (a1 : Int) : Option (Int) := (laws_heldExS.f k l0_2 a1).bind fun t140 => (if t140 < 0 then (some (-1)) else (some t140))
theorem laws_heldEx.mono : ∀ a0 a1 a2 a3 k, LeO (laws_heldEx.f k a0 a1 a2 a3) (laws_heldEx.f (k + 1) a0 a1 a2 a3) := by
  intro a0 a1 a2 a3 k
  unfold laws_heldEx.f
  repeat' first
      | (with_reducible exact laws_heldExS.mono _ _ _)
      | (with_reducible exact LeO.refl _)
      | (with_reducible exact LeO.none _)
      | (with_reducible refine LeO.ite ?_ ?_)
      | (with_reducible refine LeO.bind ?_ (fun _ => ?_))
      | exact laws_heldExS.mono _ _ _
      | exact LeO.none _
      | refine LeO.ite ?_ ?_
      | refine LeO.bind ?_ (fun _ => ?_)
set_option maxHeartbeats 8000000 in
set_option maxRecDepth 100000 in
theorem laws_heldEx.calls (k : Nat) (a0_0 : Int) (a0_1 : Int) (A0_2 : Option Addr) (c0_2 : Nat) (l0_2 : List (S31)) (a1 : Int) (r : Int) (w : World) (hr0_2 : Kd.C k31 w A0_2 l0_2.length l0_2) (hc0_2 : l0_2.length ≤ c0_2) (h : laws_heldEx.f k a0_0 a0_1 l0_2 a1 = some r) :
    Calls Try.prog 36 #[.agg #[.int .i64 a0_0, .int .i64 a0_1, .slice A0_2 l0_2.length c0_2], .int .i64 a1] w fun e w' => e = .returned (.int .i64 r) ∧ Below w.heap.size w w' := by
  have hu31 := Try.underlying31
  have HR0_2 := Aside0.mk hr0_2
  have HC0_2 := Aside0.mk hc0_2
  clear hr0_2 hc0_2
  have HB := Aside0.mk (Below.refl w.heap.size w)
  have H : ((laws_heldExS.f k l0_2 a1).bind fun t140 => (if t140 < 0 then (some (-1)) else (some t140))) = some r := h
  clear h
  replace H := Option.bind_eq_some_iff.mp H
  obtain ⟨t140, A30, H⟩ := H
  replace H : (if t140 < 0 then (some (-1)) else (some t140)) = some r := H
  have A3 := Aside0.mk A30
  clear A30
  by_cases c4 : t140 < 0
  · rw [if_pos c4] at H
    have c4b0 : decide (t140 < 0) = true := decide_eq_true c4
    clear c4
    obtain rfl := Option.some.inj H
    go_enter Try.func36, Try.ntmps36
    go_wp2_with (first | ((with_reducible refine gate_dst (N := 2) rfl ?_); refine box_event ?hg (N := 2) ?hd (cs := #[.int .i64 a0_0, .int .i64 a0_1, .slice A0_2 l0_2.length c0_2]) (t := 31) ?hr ?_; (case hd => rfl); (case hg => rfl); (case hr => first | (go_simp; done) | (go_simp; rfl)); intro gb139 hg w5 hbox hb; have n0_ := Aside0.mk (below_step (by repeat (first | (with_reducible first | exact HB.out | apply below_alloc | apply pw_below_drewN | apply below_drew1) | exact HB.out)) hb); have n1_ := Aside0.mk (hbox); have n2_ := Aside0.mk ((by rw [hg]; exact (below_size (by repeat (first | (with_reducible first | exact HB.out | apply below_alloc | apply pw_below_drewN | apply below_drew1) | exact HB.out))) : w.heap.size ≤ gb139)); have n3_ := Aside0.mk ((by rw [hg]; exact (below_size (by repeat (first | (with_reducible first | exact HB.out | apply below_alloc | apply pw_below_drewN | apply below_drew1) | exact HB.out))) : w.heap.size ≤ gb139)); clear HB; have HB := n0_; have BK139 := n1_; have GW139 := n2_; have GE139 := n3_; clear n0_ n1_ n2_ n3_; clear hb hbox hg; have hcz6_0 : w5.cell? ⟨gb139, 0, none⟩ = some (.int .i64 a0_0) := (blk_cell BK139.out 0).trans rfl; have hcz6_1 : w5.cell? ⟨gb139, 1, none⟩ = some (.int .i64 a0_1) := (blk_cell BK139.out 1).trans rfl; have hcz6_2 : w5.cell? ⟨gb139, 2, none⟩ = some (.slice A0_2 l0_2.length c0_2) := (blk_cell BK139.out 2).trans rfl; have hfz6_0 := blk_frozen BK139.out 0; have hfz6_1 := blk_frozen BK139.out 1; have hfz6_2 := blk_frozen BK139.out 2) | ((with_reducible refine gate_callee (f := 52) rfl ?_); refine goesL_ (some 8) rfl rfl Try.func52 (by kernel_rfl) rfl #[.slice A0_2 l0_2.length c0_2, .int .i64 a1] rfl (by (try simp only [List.map_toArray, List.map_cons, List.map_nil]); first | done | rfl | (simp only [List.length_drop, List.length_take]; rfl)) ?_; (with_reducible refine (laws_heldExS.calls k _ _ l0_2 a1 t140 _ ?side1 ?side2 A3.out).mono ?_); (case side1 => repeat (first | exact (Kd.C_below HR0_2.out HB.out) | (with_reducible refine Kd.C_alloc ?_ _) | (with_reducible refine Kd.C_drewN ?_ _) | (with_reducible refine Kd.C_drew ?_))); (case side2 => exact HC0_2.out); rintro e w' ⟨rfl, ⟨nd, rfl⟩⟩; refine ⟨_, rfl, ?_⟩))
    go_ret
    exact ⟨by first | rfl | (simp [errW_none, errW_some] <;> rfl) | (simp [*, errW_none, errW_some] <;> rfl), by repeat (first | (with_reducible first | exact HB.out | apply below_alloc | apply pw_below_drewN | apply below_drew1 | refine below_set ?_ GE139.out) | exact HB.out)⟩
  · rw [if_neg c4] at H
    have c4b0 : decide (t140 < 0) = false := decide_eq_false c4
    clear c4
    obtain rfl := Option.some.inj H
    go_enter Try.func36, Try.ntmps36
    go_wp2_with (first | ((with_reducible refine gate_dst (N := 2) rfl ?_); refine box_event ?hg (N := 2) ?hd (cs := #[.int .i64 a0_0, .int .i64 a0_1, .slice A0_2 l0_2.length c0_2]) (t := 31) ?hr ?_; (case hd => rfl); (case hg => rfl); (case hr => first | (go_simp; done) | (go_simp; rfl)); intro gb139 hg w7 hbox hb; have n0_ := Aside0.mk (below_step (by repeat (first | (with_reducible first | exact HB.out | apply below_alloc | apply pw_below_drewN | apply below_drew1) | exact HB.out)) hb); have n1_ := Aside0.mk (hbox); have n2_ := Aside0.mk ((by rw [hg]; exact (below_size (by repeat (first | (with_reducible first | exact HB.out | apply below_alloc | apply pw_below_drewN | apply below_drew1) | exact HB.out))) : w.heap.size ≤ gb139)); have n3_ := Aside0.mk ((by rw [hg]; exact (below_size (by repeat (first | (with_reducible first | exact HB.out | apply below_alloc | apply pw_below_drewN | apply below_drew1) | exact HB.out))) : w.heap.size ≤ gb139)); clear HB; have HB := n0_; have BK139 := n1_; have GW139 := n2_; have GE139 := n3_; clear n0_ n1_ n2_ n3_; clear hb hbox hg; have hcz8_0 : w7.cell? ⟨gb139, 0, none⟩ = some (.int .i64 a0_0) := (blk_cell BK139.out 0).trans rfl; have hcz8_1 : w7.cell? ⟨gb139, 1, none⟩ = some (.int .i64 a0_1) := (blk_cell BK139.out 1).trans rfl; have hcz8_2 : w7.cell? ⟨gb139, 2, none⟩ = some (.slice A0_2 l0_2.length c0_2) := (blk_cell BK139.out 2).trans rfl; have hfz8_0 := blk_frozen BK139.out 0; have hfz8_1 := blk_frozen BK139.out 1; have hfz8_2 := blk_frozen BK139.out 2) | ((with_reducible refine gate_callee (f := 52) rfl ?_); refine goesL_ (some 8) rfl rfl Try.func52 (by kernel_rfl) rfl #[.slice A0_2 l0_2.length c0_2, .int .i64 a1] rfl (by (try simp only [List.map_toArray, List.map_cons, List.map_nil]); first | done | rfl | (simp only [List.length_drop, List.length_take]; rfl)) ?_; (with_reducible refine (laws_heldExS.calls k _ _ l0_2 a1 t140 _ ?side1 ?side2 A3.out).mono ?_); (case side1 => repeat (first | exact (Kd.C_below HR0_2.out HB.out) | (with_reducible refine Kd.C_alloc ?_ _) | (with_reducible refine Kd.C_drewN ?_ _) | (with_reducible refine Kd.C_drew ?_))); (case side2 => exact HC0_2.out); rintro e w' ⟨rfl, ⟨nd, rfl⟩⟩; refine ⟨_, rfl, ?_⟩))
    go_ret
    exact ⟨by first | rfl | (simp [errW_none, errW_some] <;> rfl) | (simp [*, errW_none, errW_some] <;> rfl), by repeat (first | (with_reducible first | exact HB.out | apply below_alloc | apply pw_below_drewN | apply below_drew1 | refine below_set ?_ GE139.out) | exact HB.out)⟩

/-! ### laws_markEx: function 35 -/
section
variable {V V2 : World} {P : World → Prop} {ok S : Nat → Prop}
theorem ft_below (h : Foot P V ok) (hb : Below V.heap.size V V2) : Foot P V2 ok := h.step (fun k _ hlt => hb.block k hlt)
theorem ft_kept (h : Foot P V ok) (hk : Kept V V2 S) (hne : ∀ k, ok k → ¬ S k) : Foot P V2 ok := h.step (fun k hk' hlt => hk.2 k hlt (hne k hk'))
theorem ft_blk {g : Nat} {o : Obj} (h : V.heap[g]? = some o) (hok : ok g) : Foot (fun V => V.heap[g]? = some o) V ok := fun W' hW => (hW g hok (blk_lt h)).trans h
theorem ft_and {Q : World → Prop} (h : Foot P V ok) (k : Foot Q V ok) : Foot (fun V => P V ∧ Q V) V ok := fun W' hW => ⟨h W' hW, k W' hW⟩
theorem ft_C {α : Type} {d : Kd α} {A : Option Addr} {n : Nat} {xs : List α} (hd : Kd.Heap d) (h : d.C V A n xs) : Foot (fun V => d.C V A n xs) V (fun k => k < V.heap.size) := Kd.C_F hd h
theorem ft_OT {v : Value} {xs : List S31} (h : OT V ok v xs) : Foot (fun V => OT V ok v xs) V ok := fun W' hW => h.move hW
end
theorem heap24 : Kd.Heap k24 := Kd.heap_fix (fun d hd => Kd.heap_iso _ (Kd.heap_pair (Kd.heap_int _) (Kd.heap_pair (Kd.heap_int _) (Kd.heap_slice 24 hd))))
set_option maxHeartbeats 1600000 in
set_option maxRecDepth 100000 in
theorem markEx_any (xs : List S31) (P : Nat → Prop) (A : Option Addr) (n c : Nat) (hn : xs.length = n) (b0 b1 a : Int) (w0 w : World) (hB : Below w0.heap.size w0 w) (hP : ∀ k, P k → w0.heap.size ≤ k) (hO : OT w P (.slice A n c) xs) (ha0 : 0 ≤ a) (ha1 : a + 2 * nL xs ≤ 2305843009213693952) :
    Calls Try.prog 35 #[.agg #[.int .i64 b0, .int .i64 b1, .slice A n c], .int .i64 a] w fun e w' => e = .returned (.int .i64 (a + 2 * nL xs)) ∧ OT w' P (.slice A n c) (mkL xs a) ∧ Below w0.heap.size w0 w' ∧ Kept w w' (fun k => P k ∧ k < w.heap.size) := by
  have hu31 := Try.underlying31
  have HO := Aside0.mk (show OT w (fun k => P k ∧ k < w.heap.size) (.slice A n c) xs from OT.bound hO)
  have HB := Aside0.mk hB
  have HP := Aside0.mk hP
  clear hO hB hP
  go_enter Try.func35, Try.ntmps35
  go_upto_region 1 with fail
  have hb1 := (below_alloc (Below.refl w.heap.size w) (.cells #[.int .i64 b0, .int .i64 b1, .slice A n c] 31))
  have hg1 := blk_new w (.cells #[.int .i64 b0, .int .i64 b1, .slice A n c] 31)
  generalize w.alloc (.cells #[.int .i64 b0, .int .i64 b1, .slice A n c] 31) = w1 at hb1 hg1 ⊢
  have hx2 := (blk_cell hg1 2).trans (show _ = some (.slice A n c) from rfl)
  have hcall := markExS_any (SizeOf.sizeOf xs + 1) xs (Nat.lt_succ_self _) (fun k => P k ∧ k < w.heap.size) (.slice A n c) a w0 w1 (HB.out.trans (hb1.mono HB.out.size)) (fun k hk => HP.out k hk.1) (HO.out.move (fun k _ hlt => hb1.block k hlt)) ha0 ha1
  have HB1 := Aside0.mk hb1
  clear hg1 hb1
  go_wp2_with (go_at_call 34; refine hcall.mono ?_; rintro e w3 ⟨rfl, hO3, hB3, hK3⟩; clear hcall)
  go_ret
  refine ⟨rfl, hO3.mono (fun k hk => hk.1), hB3, ?_⟩
  exact (Kept.of_below HB1.out _).then_ hK3 (fun k hk => .inl hk)
theorem box3 {W wb : World} {gb : Nat} {a b v : Value} (hg : gb = W.heap.size) (hbox : wb.heap[gb]? = some (.cells #[.int .i64 0, .int .i64 0, .slice none 0 0] 31 (0, 0))) (hb : Below W.heap.size W wb) : (((wb.setCell ⟨gb, 0, none⟩ a).setCell ⟨gb, 1, none⟩ b).setCell ⟨gb, 2, none⟩ v).heap[gb]? = some (.cells #[a, b, v] 31 (0, 0)) ∧ Below W.heap.size W (((wb.setCell ⟨gb, 0, none⟩ a).setCell ⟨gb, 1, none⟩ b).setCell ⟨gb, 2, none⟩ v) :=
  ⟨blk_put (cs := #[a, b, .slice none 0 0]) (blk_put (cs := #[a, .int .i64 0, .slice none 0 0]) (blk_put hbox 0 a rfl) 1 b rfl) 2 v rfl, below_set (below_set (below_set hb (Nat.le_of_eq hg.symm)) (Nat.le_of_eq hg.symm)) (Nat.le_of_eq hg.symm)⟩
theorem OT.C {w : World} {P : Nat → Prop} {A : Option Addr} {n c : Nat} {xs : List S31} (h : OT w P (.slice A n c) xs) : xs.length ≤ c ∧ Kd.C k31 w A xs.length xs := by
  obtain ⟨A2, c2, ev, hl, hC⟩ := h.reads
  cases ev
  exact ⟨hl, hC⟩
theorem OT.V {w : World} {P : Nat → Prop} {A : Option Addr} {c b : Nat} {xs : List S31} (h : OT w P (.slice A xs.length c) xs) : Kd.V k31 31 w b P (.slice A xs.length c) xs := by
  obtain ⟨A2, c2, ev, hl, hF⟩ := h.foot
  cases ev
  exact Kd.V_mk hl hF
theorem ftF {P Q : World → Prop} {V : World} {ok : Nat → Prop} (h : Foot (fun V => P V ∧ Q V) V ok) : Foot Q V ok := fun W hW => (h W hW).2
theorem heldE_at (kf : Nat) (b0 b1 : Int) (A : Option Addr) (n c : Nat) (xs : List S31) (hn : xs.length = n) (a r : Int) (w : World) {P : Nat → Prop} (hO : OT w P (.slice A n c) xs) (h : laws_heldEx.f kf b0 b1 xs a = some r) : Calls Try.prog 36 #[.agg #[.int .i64 b0, .int .i64 b1, .slice A n c], .int .i64 a] w fun e w' => e = .returned (.int .i64 r) ∧ Below w.heap.size w w' := by
  subst hn
  exact laws_heldEx.calls kf b0 b1 A c xs a r w hO.C.2 hO.C.1 h

/-! ### laws_FnExactAtMostEx: function 5 -/
open Classical in
noncomputable def laws_FnExactAtMostEx.f (kf : Nat) (a0 : Int) (l1 : List S24) : Option Bool :=
  (laws_szExS.f kf l1 1048576).bind fun t => if t < 0 then some true else
  (laws_toExS.f kf l1).bind fun x1 => (spec_AtMostEx.f kf a0 x1).bind fun (s1, s2, s3, s4) => (impl_AtMostEx.f kf a0 x1).bind fun g => (laws_eqEx.f kf s1 s2 s3 s1 s2 s3).bind fun b1 => (laws_eqExS.f kf x1 x1).bind fun b2_1 => (laws_heldEx.f kf s1 s2 (mkL s3 1) 1).bind fun h =>
  if g = (s1, s2, s3, s4) ∧ b1 = true ∧ b2_1 = true ∧ h = 1 + 2 * (nL s3 : Int) ∧ nL x1 ≤ 1048576 ∧ nL s3 ≤ 1048576 then some true else none
set_option maxHeartbeats 1600000 in
set_option maxRecDepth 100000 in
theorem laws_FnExactAtMostEx.calls (kf : Nat) (a0 : Int) (A1 : Option Addr) (c1 : Nat) (l1 : List S24) (r : Bool) (w : World) (hr1 : Kd.C k24 w A1 l1.length l1) (hc1 : l1.length ≤ c1) (h : laws_FnExactAtMostEx.f kf a0 l1 = some r) :
    Calls Try.prog 5 #[.int .i64 a0, .slice A1 l1.length c1] w fun e w' => e = .returned (.bool r) ∧ Below w.heap.size w w' := by
  have hu31 := Try.underlying31
  have hu24 := Try.underlying24
  unfold laws_FnExactAtMostEx.f at h
  have HB := Aside0.mk (Below.refl w.heap.size w)
  replace h := Option.bind_eq_some_iff.1 h
  obtain ⟨t, hsz1, h⟩ := h
  by_cases ht1 : t < 0
  · rw [if_pos ht1] at h
    obtain rfl := Option.some.inj h
    clear h
    go_enter Try.func5, Try.ntmps5
    go_wp2_with (first | (go_at_call 29; (with_reducible refine (laws_szExS.calls kf A1 c1 l1 1048576 t _ (Kd.C_below hr1 HB.out) hc1 hsz1).mono ?_); rintro e wz1 ⟨rfl, hb⟩; have mB_ := Aside0.mk (HB.out.trans (hb.mono HB.out.size)); clear HB hb; have HB := mB_; clear mB_))
    go_ret
    exact ⟨rfl, HB.out⟩
  rw [if_neg ht1] at h
  replace h := Option.bind_eq_some_iff.1 h
  obtain ⟨x1, hto1, h⟩ := h
  replace h := Option.bind_eq_some_iff.1 h
  obtain ⟨⟨s1, s2, s3, s4⟩, hsp, h⟩ := h
  replace h := Option.bind_eq_some_iff.1 h
  obtain ⟨g, him, h⟩ := h
  replace h := Option.bind_eq_some_iff.1 h
  obtain ⟨b1, heb, h⟩ := h
  replace h := Option.bind_eq_some_iff.1 h
  obtain ⟨b2_1, hex1, h⟩ := h
  replace h := Option.bind_eq_some_iff.1 h
  obtain ⟨hh, hhb, h⟩ := h
  by_cases hc : g = (s1, s2, s3, s4) ∧ b1 = true ∧ b2_1 = true ∧ hh = 1 + 2 * (nL s3 : Int) ∧ nL x1 ≤ 1048576 ∧ nL s3 ≤ 1048576
  · rw [if_pos hc] at h
    obtain ⟨rfl, rfl, rfl, rfl, hn1, hn9⟩ := hc
    obtain rfl := Option.some.inj h
    clear h
    have hne : (s4 != s4) = false := by simp
    have hne2 : ((1 + 2 * (nL s3 : Int)) != (1 + 2 * (nL s3 : Int))) = false := by simp
    have hnn : ¬ ((1 + 2 * (nL s3 : Int)) < 0) := by omega
    have hnx := Aside0.mk (show nL x1 ≤ 1048576 ∧ nL s3 ≤ 1048576 from ⟨hn1, hn9⟩)
    clear hn1 hn9
    go_enter Try.func5, Try.ntmps5
    go_upto_region 5 with (go_at_call 29; (with_reducible refine (laws_szExS.calls kf A1 c1 l1 1048576 t _ (Kd.C_below hr1 HB.out) hc1 hsz1).mono ?_); rintro e wz1 ⟨rfl, hb⟩; have mHB_ := Aside0.mk (HB.out.trans (hb.mono HB.out.size)); clear HB; have HB := mHB_; clear mHB_; clear hb)
    go_upto_region 6 with (first
      | (go_at_call 31; (with_reducible refine (toSS.calls kf A1 c1 l1 x1 _ (Kd.C_below hr1 HB.out) hc1 hto1).mono ?_); rintro e wy1 ⟨v3, rfl, hS3, hb⟩; have mHB_ := Aside0.mk (HB.out.trans (hb.mono HB.out.size)); clear HB; have HB := mHB_; clear mHB_; clear hb; obtain ⟨A1b, c1b, ev_, hl1b, hC1b⟩ := Kd.S_reads hS3; replace hC1b := kS31_C hC1b; clear hS3; subst ev_)
      | (go_at_call 30; (with_reducible refine (spec_AtMostEx.calls kf a0 A1b c1b x1 s1 s2 s3 s4 _ hC1b hl1b hsp).mono ?_); rintro e w3 ⟨v4, rfl, hV4, hb⟩; clear hC1b hl1b; have mHB_ := Aside0.mk (HB.out.trans (hb.mono HB.out.size)); clear HB; have HB := mHB_; clear mHB_; clear hb; obtain ⟨A4, c4, ev4⟩ := Kd.V_slice hV4; subst ev4; have hF4 := Kd.V_F hV4; have hl4 := (Kd.V_reads' hV4).2.1; clear hV4)
      | ((with_reducible refine gate_dst (N := 6) rfl ?_); refine box_event ?hg (N := 6) ?hd (cs := #[.int .i64 0, .int .i64 0, .slice none 0 0]) (t := 31) ?hr ?_; (case hd => rfl); (case hg => rfl); (case hr => first | (go_simp; done) | (go_simp; rfl)); intro gb4 hgw wb4 hbox hbb; have hcz0 := (blk_cell hbox 0).trans (show _ = some (.int .i64 0) from rfl); have hcz1 := (blk_cell hbox 1).trans (show _ = some (.int .i64 0) from rfl); have hcz2 := (blk_cell hbox 2).trans (show _ = some (.slice none 0 0) from rfl); have hfz0 := blk_frozen hbox 0; have hfz1 := blk_frozen hbox 1; have hfz2 := blk_frozen hbox 2; have hgw_ := Aside0.mk hgw; clear hgw; have hgw := hgw_; clear hgw_)
      | ((with_reducible refine gate_store (t := 31) (p := 6) rfl ?_); refine store_event (t := 31) (p := 6) (v := ?vo_6) (w1 := ((wb4.setCell ⟨gb4, 0, none⟩ (.int .i64 s1)).setCell ⟨gb4, 1, none⟩ (.int .i64 s2)).setCell ⟨gb4, 2, none⟩ (.slice A4 s3.length c4)) ?hg ?ho ?hn ?hr ?_; (case ho => rfl); (case hg => rfl); (case hn => rfl); (case hr => first | (go_simp; done) | (go_simp; rfl)); clear hcz0 hcz1 hcz2 hfz0 hfz1 hfz2; intro w4 hw_; obtain ⟨hbk, hb⟩ := box3 (a := .int .i64 s1) (b := .int .i64 s2) (v := .slice A4 s3.length c4) hgw.out hbox hbb; rw [← hw_] at hbk hb; clear hw_ hbox hbb; have mHB_ := Aside0.mk (HB.out.trans (hb.mono HB.out.size)); clear HB; have HB := mHB_; clear mHB_; have FW := Aside0.mk (ft_and (ft_blk (ok := fun k_ => k_ < w4.heap.size) hbk (blk_lt hbk)) (Kd.F_mono (Kd.F_bound (Kd.F_below hF4 hb)) (fun k_ hk_ => hk_.2))); have HW4 := Aside0.mk HB.out.size; clear hgw hb hbk hF4))
    have hw0 := (blk_cell FW.out.now.1 0).trans (show _ = some (.int .i64 s1) from rfl)
    have hw1 := (blk_cell FW.out.now.1 1).trans (show _ = some (.int .i64 s2) from rfl)
    have hw2 := (blk_cell FW.out.now.1 2).trans (show _ = some (.slice A4 s3.length c4) from rfl)
    go_upto_region 7 with (go_at_call 31; (with_reducible refine (toSS.calls kf A1 c1 l1 x1 _ (Kd.C_below hr1 HB.out) hc1 hto1).mono ?_); rintro e w5 ⟨v5, rfl, hS5, hb⟩; have HX0 := Aside0.mk (ft_OT (OT.of _ x1 (Nat.lt_succ_self _) (Kd.S_mono (ok' := fun k_ => w4.heap.size ≤ k_ ∧ k_ < w5.heap.size) (Kd.S_bound hS5) (fun k_ hk_ => ⟨hk_.2.1, hk_.2.2.1⟩)))); have H45 := Aside0.mk hb.size; clear hw0 hw1 hw2; have mFW_ := Aside0.mk (ft_below FW.out hb); have mHB_ := Aside0.mk (HB.out.trans (hb.mono HB.out.size)); clear FW HB; have FW := mFW_; have HB := mHB_; clear mFW_ mHB_; have hw0 := (blk_cell FW.out.now.1 0).trans (show _ = some (.int .i64 s1) from rfl); have hw1 := (blk_cell FW.out.now.1 1).trans (show _ = some (.int .i64 s2) from rfl); have hw2 := (blk_cell FW.out.now.1 2).trans (show _ = some (.slice A4 s3.length c4) from rfl); clear hb; obtain ⟨A5, c5, ev5⟩ := Kd.S_slice hS5; clear hS5; subst ev5)
    go_upto_region 8 with (first
      | (go_at_call 32; (with_reducible refine (atMostS.calls kf a0 (fun k_ => w4.heap.size ≤ k_ ∧ k_ < w5.heap.size) A5 c5 x1 s1 s2 s3 s4 _ (OT.V HX0.out.now) him).mono ?_); rintro e w7 ⟨v7, rfl, hS7, hb⟩; have HG := Aside0.mk (ft_OT (OT.of _ s3 (Nat.lt_succ_self _) (Kd.S_mono (ok' := fun k_ => w5.heap.size ≤ k_ ∧ k_ < w7.heap.size) (Kd.S_bound hS7) (fun k_ hk_ => ⟨hk_.2.1, hk_.2.2.1⟩)))); have H57 := Aside0.mk hb.size; clear hw0 hw1 hw2; have mFW_ := Aside0.mk (ft_below FW.out hb); have mHX0_ := Aside0.mk (ft_below HX0.out hb); have mHB_ := Aside0.mk (HB.out.trans (hb.mono HB.out.size)); clear FW HX0 HB; have FW := mFW_; have HX0 := mHX0_; have HB := mHB_; clear mFW_ mHX0_ mHB_; have hw0 := (blk_cell FW.out.now.1 0).trans (show _ = some (.int .i64 s1) from rfl); have hw1 := (blk_cell FW.out.now.1 1).trans (show _ = some (.int .i64 s2) from rfl); have hw2 := (blk_cell FW.out.now.1 2).trans (show _ = some (.slice A4 s3.length c4) from rfl); clear hb; obtain ⟨A7, c7, ev7⟩ := Kd.S_slice hS7; clear hS7; subst ev7)
      | ((with_reducible refine gate_dst (N := 9) rfl ?_); refine box_event ?hg (N := 9) ?hd (cs := #[.int .i64 0, .int .i64 0, .slice none 0 0]) (t := 31) ?hr ?_; (case hd => rfl); (case hg => rfl); (case hr => first | (go_simp; done) | (go_simp; rfl)); intro gb7 hgw wb7 hbox hbb; have hcz0 := (blk_cell hbox 0).trans (show _ = some (.int .i64 0) from rfl); have hcz1 := (blk_cell hbox 1).trans (show _ = some (.int .i64 0) from rfl); have hcz2 := (blk_cell hbox 2).trans (show _ = some (.slice none 0 0) from rfl); have hfz0 := blk_frozen hbox 0; have hfz1 := blk_frozen hbox 1; have hfz2 := blk_frozen hbox 2; have hgw_ := Aside0.mk hgw; clear hgw; have hgw := hgw_; clear hgw_)
      | ((with_reducible refine gate_store (t := 31) (p := 9) rfl ?_); refine store_event (t := 31) (p := 9) (v := ?vo_9) (w1 := ((wb7.setCell ⟨gb7, 0, none⟩ (.int .i64 s1)).setCell ⟨gb7, 1, none⟩ (.int .i64 s2)).setCell ⟨gb7, 2, none⟩ (.slice A7 s3.length c7)) ?hg ?ho ?hn ?hr ?_; (case ho => rfl); (case hg => rfl); (case hn => rfl); (case hr => first | (go_simp; done) | (go_simp; rfl)); clear hcz0 hcz1 hcz2 hfz0 hfz1 hfz2; intro w8 hw_; obtain ⟨hbk, hb⟩ := box3 (a := .int .i64 s1) (b := .int .i64 s2) (v := .slice A7 s3.length c7) hgw.out hbox hbb; rw [← hw_] at hbk hb; clear hw_ hbox hbb; clear hw0 hw1 hw2; have mFW_ := Aside0.mk (ft_below FW.out hb); have mHX0_ := Aside0.mk (ft_below HX0.out hb); have mHG_ := Aside0.mk (ft_below HG.out hb); have mHB_ := Aside0.mk (HB.out.trans (hb.mono HB.out.size)); clear FW HX0 HG HB; have FW := mFW_; have HX0 := mHX0_; have HG := mHG_; have HB := mHB_; clear mFW_ mHX0_ mHG_ mHB_; have hw0 := (blk_cell FW.out.now.1 0).trans (show _ = some (.int .i64 s1) from rfl); have hw1 := (blk_cell FW.out.now.1 1).trans (show _ = some (.int .i64 s2) from rfl); have hw2 := (blk_cell FW.out.now.1 2).trans (show _ = some (.slice A4 s3.length c4) from rfl); have HGB := Aside0.mk (ft_blk (ok := fun k_ => k_ = gb7) hbk rfl); have HGG := Aside0.mk (Nat.le_of_eq hgw.out.symm); clear hgw hb hbk))
    have hw0 := (blk_cell FW.out.now.1 0).trans (show _ = some (.int .i64 s1) from rfl)
    have hw1 := (blk_cell FW.out.now.1 1).trans (show _ = some (.int .i64 s2) from rfl)
    have hw2 := (blk_cell FW.out.now.1 2).trans (show _ = some (.slice A4 s3.length c4) from rfl)
    have hg0 := (blk_cell HGB.out.now 0).trans (show _ = some (.int .i64 s1) from rfl)
    have hg1 := (blk_cell HGB.out.now 1).trans (show _ = some (.int .i64 s2) from rfl)
    have hg2 := (blk_cell HGB.out.now 2).trans (show _ = some (.slice A7 s3.length c7) from rfl)
    go_upto_region 10 with (go_at_call 16; (with_reducible refine (laws_eqEx.calls kf s1 s2 A7 c7 s3 s1 s2 A4 c4 s3 true _ (OT.C HG.out.now).2 (OT.C HG.out.now).1 FW.out.now.2 hl4 heb).mono ?_); rintro e w9 ⟨rfl, hb⟩; clear hw0 hw1 hw2; clear hg0 hg1 hg2; have mFW_ := Aside0.mk (ft_below FW.out hb); have mHX0_ := Aside0.mk (ft_below HX0.out hb); have mHG_ := Aside0.mk (ft_below HG.out hb); have mHGB_ := Aside0.mk (ft_below HGB.out hb); have mHB_ := Aside0.mk (HB.out.trans (hb.mono HB.out.size)); clear FW HX0 HG HGB HB; have FW := mFW_; have HX0 := mHX0_; have HG := mHG_; have HGB := mHGB_; have HB := mHB_; clear mFW_ mHX0_ mHG_ mHGB_ mHB_; have hw0 := (blk_cell FW.out.now.1 0).trans (show _ = some (.int .i64 s1) from rfl); have hw1 := (blk_cell FW.out.now.1 1).trans (show _ = some (.int .i64 s2) from rfl); have hw2 := (blk_cell FW.out.now.1 2).trans (show _ = some (.slice A4 s3.length c4) from rfl); have hg0 := (blk_cell HGB.out.now 0).trans (show _ = some (.int .i64 s1) from rfl); have hg1 := (blk_cell HGB.out.now 1).trans (show _ = some (.int .i64 s2) from rfl); have hg2 := (blk_cell HGB.out.now 2).trans (show _ = some (.slice A7 s3.length c7) from rfl); clear hb)
    go_upto_region 12 with (first
      | (go_at_call 31; (with_reducible refine (toSS.calls kf A1 c1 l1 x1 _ (Kd.C_below hr1 HB.out) hc1 hto1).mono ?_); rintro e wq1 ⟨v3, rfl, hS3, hb⟩; clear hw0 hw1 hw2; clear hg0 hg1 hg2; have mFW_ := Aside0.mk (ft_below FW.out hb); have mHX0_ := Aside0.mk (ft_below HX0.out hb); have mHG_ := Aside0.mk (ft_below HG.out hb); have mHGB_ := Aside0.mk (ft_below HGB.out hb); have mHB_ := Aside0.mk (HB.out.trans (hb.mono HB.out.size)); clear FW HX0 HG HGB HB; have FW := mFW_; have HX0 := mHX0_; have HG := mHG_; have HGB := mHGB_; have HB := mHB_; clear mFW_ mHX0_ mHG_ mHGB_ mHB_; have hw0 := (blk_cell FW.out.now.1 0).trans (show _ = some (.int .i64 s1) from rfl); have hw1 := (blk_cell FW.out.now.1 1).trans (show _ = some (.int .i64 s2) from rfl); have hw2 := (blk_cell FW.out.now.1 2).trans (show _ = some (.slice A4 s3.length c4) from rfl); have hg0 := (blk_cell HGB.out.now 0).trans (show _ = some (.int .i64 s1) from rfl); have hg1 := (blk_cell HGB.out.now 1).trans (show _ = some (.int .i64 s2) from rfl); have hg2 := (blk_cell HGB.out.now 2).trans (show _ = some (.slice A7 s3.length c7) from rfl); clear hb; obtain ⟨A1b, c1b, ev_, hl1b, hC1b⟩ := Kd.S_reads hS3; replace hC1b := kS31_C hC1b; clear hS3; subst ev_)
      | (go_at_call 33; (with_reducible refine (laws_eqExS.calls kf A5 c5 x1 A1b c1b x1 true _ (OT.C HX0.out.now).2 (OT.C HX0.out.now).1 hC1b hl1b hex1).mono ?_); rintro e wr1 ⟨rfl, hb⟩; clear hC1b hl1b; clear hw0 hw1 hw2; clear hg0 hg1 hg2; have mFW_ := Aside0.mk (ft_below FW.out hb); have mHX0_ := Aside0.mk (ft_below HX0.out hb); have mHG_ := Aside0.mk (ft_below HG.out hb); have mHGB_ := Aside0.mk (ft_below HGB.out hb); have mHB_ := Aside0.mk (HB.out.trans (hb.mono HB.out.size)); clear FW HX0 HG HGB HB; have FW := mFW_; have HX0 := mHX0_; have HG := mHG_; have HGB := mHGB_; have HB := mHB_; clear mFW_ mHX0_ mHG_ mHGB_ mHB_; have hw0 := (blk_cell FW.out.now.1 0).trans (show _ = some (.int .i64 s1) from rfl); have hw1 := (blk_cell FW.out.now.1 1).trans (show _ = some (.int .i64 s2) from rfl); have hw2 := (blk_cell FW.out.now.1 2).trans (show _ = some (.slice A4 s3.length c4) from rfl); have hg0 := (blk_cell HGB.out.now 0).trans (show _ = some (.int .i64 s1) from rfl); have hg1 := (blk_cell HGB.out.now 1).trans (show _ = some (.int .i64 s2) from rfl); have hg2 := (blk_cell HGB.out.now 2).trans (show _ = some (.slice A7 s3.length c7) from rfl); clear hb))
    go_upto_region 14 with (go_at_call 34; (with_reducible refine (markExS_any (SizeOf.sizeOf x1 + 1) x1 (Nat.lt_succ_self _) (fun k_ => w4.heap.size ≤ k_ ∧ k_ < w5.heap.size) (.slice A5 x1.length c5) (1 : Int) w _ HB.out (fun k_ hk_ => by have g_ : w4.heap.size ≤ k_ ∧ k_ < w5.heap.size := hk_; have := HW4.out; have := H45.out; have := H57.out; have := HGG.out; omega) HX0.out.now (by have := hnx.out; omega) (by have := hnx.out; omega)).mono ?_); rintro e wm0 ⟨rfl, hO_, hbB, hbK⟩; clear HX0 hO_; clear hw0 hw1 hw2; clear hg0 hg1 hg2; have mFW_ := Aside0.mk (ft_kept FW.out hbK (fun k_ hk_ hs_ => by have g1_ : k_ < w4.heap.size := hk_; have g2_ : w4.heap.size ≤ k_ ∧ k_ < w5.heap.size := hs_; have := H45.out; have := H57.out; have := HGG.out; omega)); have mHG_ := Aside0.mk (ft_kept HG.out hbK (fun k_ hk_ hs_ => by have g1_ : w5.heap.size ≤ k_ ∧ k_ < w7.heap.size := hk_; have g2_ : w4.heap.size ≤ k_ ∧ k_ < w5.heap.size := hs_; have := H45.out; have := H57.out; have := HGG.out; omega)); have mHGB_ := Aside0.mk (ft_kept HGB.out hbK (fun k_ hk_ hs_ => by have g1_ : k_ = gb7 := hk_; have g2_ : w4.heap.size ≤ k_ ∧ k_ < w5.heap.size := hs_; have := H45.out; have := H57.out; have := HGG.out; omega)); have mHB_ := Aside0.mk (hbB); clear FW HG HGB HB; have FW := mFW_; have HG := mHG_; have HGB := mHGB_; have HB := mHB_; clear mFW_ mHG_ mHGB_ mHB_; have hw0 := (blk_cell FW.out.now.1 0).trans (show _ = some (.int .i64 s1) from rfl); have hw1 := (blk_cell FW.out.now.1 1).trans (show _ = some (.int .i64 s2) from rfl); have hw2 := (blk_cell FW.out.now.1 2).trans (show _ = some (.slice A4 s3.length c4) from rfl); have hg0 := (blk_cell HGB.out.now 0).trans (show _ = some (.int .i64 s1) from rfl); have hg1 := (blk_cell HGB.out.now 1).trans (show _ = some (.int .i64 s2) from rfl); have hg2 := (blk_cell HGB.out.now 2).trans (show _ = some (.slice A7 s3.length c7) from rfl); clear hbK hbB)
    have hk0 : ¬ (((1 : Int) + 2 * nL x1) < 0) := by have := hnx.out; omega
    go_upto_region 17 with (go_at_call 16; (with_reducible refine (laws_eqEx.calls kf s1 s2 A7 c7 s3 s1 s2 A4 c4 s3 true _ (OT.C HG.out.now).2 (OT.C HG.out.now).1 FW.out.now.2 hl4 heb).mono ?_); rintro e w10 ⟨rfl, hb⟩; clear hw0 hw1 hw2; clear hg0 hg1 hg2; have mFW_ := Aside0.mk (ft_below FW.out hb); have mHG_ := Aside0.mk (ft_below HG.out hb); have mHGB_ := Aside0.mk (ft_below HGB.out hb); have mHB_ := Aside0.mk (HB.out.trans (hb.mono HB.out.size)); clear FW HG HGB HB; have FW := mFW_; have HG := mHG_; have HGB := mHGB_; have HB := mHB_; clear mFW_ mHG_ mHGB_ mHB_; have hw0 := (blk_cell FW.out.now.1 0).trans (show _ = some (.int .i64 s1) from rfl); have hw1 := (blk_cell FW.out.now.1 1).trans (show _ = some (.int .i64 s2) from rfl); have hw2 := (blk_cell FW.out.now.1 2).trans (show _ = some (.slice A4 s3.length c4) from rfl); have hg0 := (blk_cell HGB.out.now 0).trans (show _ = some (.int .i64 s1) from rfl); have hg1 := (blk_cell HGB.out.now 1).trans (show _ = some (.int .i64 s2) from rfl); have hg2 := (blk_cell HGB.out.now 2).trans (show _ = some (.slice A7 s3.length c7) from rfl); clear hb)
    go_upto_region 19 with (go_at_call 35; (with_reducible refine (markEx_any s3 (fun k_ => w5.heap.size ≤ k_ ∧ k_ < w7.heap.size) A7 s3.length c7 rfl s1 s2 1 w _ HB.out (fun k_ hk_ => by have g_ : w5.heap.size ≤ k_ ∧ k_ < w7.heap.size := hk_; have := HW4.out; have := H45.out; have := H57.out; have := HGG.out; omega) HG.out.now (by decide) (by have := hnx.out; omega)).mono ?_); rintro e w11 ⟨rfl, hO_, hbB, hbK⟩; have hO2 := ft_OT hO_; clear HG hO_; clear hw0 hw1 hw2; clear hg0 hg1 hg2; have mFW_ := Aside0.mk (ft_kept FW.out hbK (fun k_ hk_ hs_ => by have g1_ : k_ < w4.heap.size := hk_; have g2_ : w5.heap.size ≤ k_ ∧ k_ < w7.heap.size := hs_.1; have := H45.out; have := H57.out; have := HGG.out; omega)); have mHGB_ := Aside0.mk (ft_kept HGB.out hbK (fun k_ hk_ hs_ => by have g1_ : k_ = gb7 := hk_; have g2_ : w5.heap.size ≤ k_ ∧ k_ < w7.heap.size := hs_.1; have := H45.out; have := H57.out; have := HGG.out; omega)); have mHB_ := Aside0.mk (hbB); clear FW HGB HB; have FW := mFW_; have HGB := mHGB_; have HB := mHB_; clear mFW_ mHGB_ mHB_; have hw0 := (blk_cell FW.out.now.1 0).trans (show _ = some (.int .i64 s1) from rfl); have hw1 := (blk_cell FW.out.now.1 1).trans (show _ = some (.int .i64 s2) from rfl); have hw2 := (blk_cell FW.out.now.1 2).trans (show _ = some (.slice A4 s3.length c4) from rfl); have hg0 := (blk_cell HGB.out.now 0).trans (show _ = some (.int .i64 s1) from rfl); have hg1 := (blk_cell HGB.out.now 1).trans (show _ = some (.int .i64 s2) from rfl); have hg2 := (blk_cell HGB.out.now 2).trans (show _ = some (.slice A7 s3.length c7) from rfl); have HG := Aside0.mk hO2; clear hbK hbB hO2)
    go_upto_region 24 with (go_at_call 36; (with_reducible refine (heldE_at kf s1 s2 A7 s3.length c7 (mkL s3 1) (mkL_length s3 1) 1 (1 + 2 * nL s3) _ HG.out.now hhb).mono ?_); rintro e w12 ⟨rfl, hb⟩; clear hw0 hw1 hw2; clear hg0 hg1 hg2; have mFW_ := Aside0.mk (ft_below FW.out hb); have mHGB_ := Aside0.mk (ft_below HGB.out hb); have mHG_ := Aside0.mk (ft_below HG.out hb); have mHB_ := Aside0.mk (HB.out.trans (hb.mono HB.out.size)); clear FW HGB HG HB; have FW := mFW_; have HGB := mHGB_; have HG := mHG_; have HB := mHB_; clear mFW_ mHGB_ mHG_ mHB_; have hw0 := (blk_cell FW.out.now.1 0).trans (show _ = some (.int .i64 s1) from rfl); have hw1 := (blk_cell FW.out.now.1 1).trans (show _ = some (.int .i64 s2) from rfl); have hw2 := (blk_cell FW.out.now.1 2).trans (show _ = some (.slice A4 s3.length c4) from rfl); have hg0 := (blk_cell HGB.out.now 0).trans (show _ = some (.int .i64 s1) from rfl); have hg1 := (blk_cell HGB.out.now 1).trans (show _ = some (.int .i64 s2) from rfl); have hg2 := (blk_cell HGB.out.now 2).trans (show _ = some (.slice A7 s3.length c7) from rfl); clear hb)
    go_upto_region 25 with (first
      | (go_at_call 31; (with_reducible refine (toSS.calls kf A1 c1 l1 x1 _ (Kd.C_below hr1 HB.out) hc1 hto1).mono ?_); rintro e wu1 ⟨v3, rfl, hS3, hb⟩; clear hw0 hw1 hw2; clear hg0 hg1 hg2; have mFW_ := Aside0.mk (ft_below FW.out hb); have mHGB_ := Aside0.mk (ft_below HGB.out hb); have mHG_ := Aside0.mk (ft_below HG.out hb); have mHB_ := Aside0.mk (HB.out.trans (hb.mono HB.out.size)); clear FW HGB HG HB; have FW := mFW_; have HGB := mHGB_; have HG := mHG_; have HB := mHB_; clear mFW_ mHGB_ mHG_ mHB_; have hw0 := (blk_cell FW.out.now.1 0).trans (show _ = some (.int .i64 s1) from rfl); have hw1 := (blk_cell FW.out.now.1 1).trans (show _ = some (.int .i64 s2) from rfl); have hw2 := (blk_cell FW.out.now.1 2).trans (show _ = some (.slice A4 s3.length c4) from rfl); have hg0 := (blk_cell HGB.out.now 0).trans (show _ = some (.int .i64 s1) from rfl); have hg1 := (blk_cell HGB.out.now 1).trans (show _ = some (.int .i64 s2) from rfl); have hg2 := (blk_cell HGB.out.now 2).trans (show _ = some (.slice A7 s3.length c7) from rfl); clear hb; obtain ⟨A1b, c1b, ev_⟩ := Kd.S_slice hS3; subst ev_; have hV1 := OT.of _ x1 (Nat.lt_succ_self _) hS3; clear hS3)
      | (go_at_call 32; (with_reducible refine (atMostS.calls kf a0 _ A1b c1b x1 s1 s2 s3 s4 _ (OT.V hV1) him).mono ?_); rintro e w20 ⟨v8, rfl, hS8, hb⟩; clear hV1; clear hw0 hw1 hw2; clear hg0 hg1 hg2; have mFW_ := Aside0.mk (ft_below FW.out hb); have mHGB_ := Aside0.mk (ft_below HGB.out hb); have mHG_ := Aside0.mk (ft_below HG.out hb); have mHB_ := Aside0.mk (HB.out.trans (hb.mono HB.out.size)); clear FW HGB HG HB; have FW := mFW_; have HGB := mHGB_; have HG := mHG_; have HB := mHB_; clear mFW_ mHGB_ mHG_ mHB_; have hw0 := (blk_cell FW.out.now.1 0).trans (show _ = some (.int .i64 s1) from rfl); have hw1 := (blk_cell FW.out.now.1 1).trans (show _ = some (.int .i64 s2) from rfl); have hw2 := (blk_cell FW.out.now.1 2).trans (show _ = some (.slice A4 s3.length c4) from rfl); have hg0 := (blk_cell HGB.out.now 0).trans (show _ = some (.int .i64 s1) from rfl); have hg1 := (blk_cell HGB.out.now 1).trans (show _ = some (.int .i64 s2) from rfl); have hg2 := (blk_cell HGB.out.now 2).trans (show _ = some (.slice A7 s3.length c7) from rfl); clear hb; obtain ⟨A8, c8, ev8⟩ := Kd.S_slice hS8; subst ev8; have hO8 := ft_OT (OT.of _ s3 (Nat.lt_succ_self _) hS8); clear hS8)
      | ((with_reducible refine gate_dst (N := 14) rfl ?_); refine box_event ?hg (N := 14) ?hd (cs := #[.int .i64 0, .int .i64 0, .slice none 0 0]) (t := 31) ?hr ?_; (case hd => rfl); (case hg => rfl); (case hr => first | (go_simp; done) | (go_simp; rfl)); intro gb9 hgw wb9 hbox hbb; have hcz0 := (blk_cell hbox 0).trans (show _ = some (.int .i64 0) from rfl); have hcz1 := (blk_cell hbox 1).trans (show _ = some (.int .i64 0) from rfl); have hcz2 := (blk_cell hbox 2).trans (show _ = some (.slice none 0 0) from rfl); have hfz0 := blk_frozen hbox 0; have hfz1 := blk_frozen hbox 1; have hfz2 := blk_frozen hbox 2; have hgw_ := Aside0.mk hgw; clear hgw; have hgw := hgw_; clear hgw_)
      | ((with_reducible refine gate_store (t := 31) (p := 14) rfl ?_); refine store_event (t := 31) (p := 14) (v := ?vo_14) (w1 := ((wb9.setCell ⟨gb9, 0, none⟩ (.int .i64 s1)).setCell ⟨gb9, 1, none⟩ (.int .i64 s2)).setCell ⟨gb9, 2, none⟩ (.slice A8 s3.length c8)) ?hg ?ho ?hn ?hr ?_; (case ho => rfl); (case hg => rfl); (case hn => rfl); (case hr => first | (go_simp; done) | (go_simp; rfl)); clear hcz0 hcz1 hcz2 hfz0 hfz1 hfz2; intro w21 hw_; obtain ⟨hbk, hb⟩ := box3 (a := .int .i64 s1) (b := .int .i64 s2) (v := .slice A8 s3.length c8) hgw.out hbox hbb; rw [← hw_] at hbk hb; clear hw_ hbox hbb; clear hw0 hw1 hw2; clear hg0 hg1 hg2; have mFW_ := Aside0.mk (ft_below FW.out hb); have mHGB_ := Aside0.mk (ft_below HGB.out hb); have mHG_ := Aside0.mk (ft_below HG.out hb); have mHB_ := Aside0.mk (HB.out.trans (hb.mono HB.out.size)); clear FW HGB HG HB; have FW := mFW_; have HGB := mHGB_; have HG := mHG_; have HB := mHB_; clear mFW_ mHGB_ mHG_ mHB_; have hw0 := (blk_cell FW.out.now.1 0).trans (show _ = some (.int .i64 s1) from rfl); have hw1 := (blk_cell FW.out.now.1 1).trans (show _ = some (.int .i64 s2) from rfl); have hw2 := (blk_cell FW.out.now.1 2).trans (show _ = some (.slice A4 s3.length c4) from rfl); have hg0 := (blk_cell HGB.out.now 0).trans (show _ = some (.int .i64 s1) from rfl); have hg1 := (blk_cell HGB.out.now 1).trans (show _ = some (.int .i64 s2) from rfl); have hg2 := (blk_cell HGB.out.now 2).trans (show _ = some (.slice A7 s3.length c7) from rfl); replace hO8 := ft_below hO8 hb; have hu0 := (blk_cell hbk 0).trans (show _ = some (.int .i64 s1) from rfl); have hu1 := (blk_cell hbk 1).trans (show _ = some (.int .i64 s2) from rfl); have hu2 := (blk_cell hbk 2).trans (show _ = some (.slice A8 s3.length c8) from rfl); clear hgw hb hbk))
    go_upto_region 27 with (go_at_call 16; (with_reducible refine (laws_eqEx.calls kf s1 s2 A8 c8 s3 s1 s2 A4 c4 s3 true _ (OT.C hO8.now).2 (OT.C hO8.now).1 FW.out.now.2 hl4 heb).mono ?_); rintro e w22 ⟨rfl, hb⟩; clear hO8 hu0 hu1 hu2; clear hw0 hw1 hw2; clear hg0 hg1 hg2; have mFW_ := Aside0.mk (ft_below FW.out hb); have mHGB_ := Aside0.mk (ft_below HGB.out hb); have mHG_ := Aside0.mk (ft_below HG.out hb); have mHB_ := Aside0.mk (HB.out.trans (hb.mono HB.out.size)); clear FW HGB HG HB; have FW := mFW_; have HGB := mHGB_; have HG := mHG_; have HB := mHB_; clear mFW_ mHGB_ mHG_ mHB_; have hw0 := (blk_cell FW.out.now.1 0).trans (show _ = some (.int .i64 s1) from rfl); have hw1 := (blk_cell FW.out.now.1 1).trans (show _ = some (.int .i64 s2) from rfl); have hw2 := (blk_cell FW.out.now.1 2).trans (show _ = some (.slice A4 s3.length c4) from rfl); have hg0 := (blk_cell HGB.out.now 0).trans (show _ = some (.int .i64 s1) from rfl); have hg1 := (blk_cell HGB.out.now 1).trans (show _ = some (.int .i64 s2) from rfl); have hg2 := (blk_cell HGB.out.now 2).trans (show _ = some (.slice A7 s3.length c7) from rfl); clear hb)
    go_wp2_with (go_at_call 36; (with_reducible refine (heldE_at kf s1 s2 A7 s3.length c7 (mkL s3 1) (mkL_length s3 1) 1 (1 + 2 * nL s3) _ HG.out.now hhb).mono ?_); rintro e w23 ⟨rfl, hb⟩; clear hw0 hw1 hw2; clear hg0 hg1 hg2; have mFW_ := Aside0.mk (ft_below FW.out hb); have mHGB_ := Aside0.mk (ft_below HGB.out hb); have mHG_ := Aside0.mk (ft_below HG.out hb); have mHB_ := Aside0.mk (HB.out.trans (hb.mono HB.out.size)); clear FW HGB HG HB; have FW := mFW_; have HGB := mHGB_; have HG := mHG_; have HB := mHB_; clear mFW_ mHGB_ mHG_ mHB_; have hw0 := (blk_cell FW.out.now.1 0).trans (show _ = some (.int .i64 s1) from rfl); have hw1 := (blk_cell FW.out.now.1 1).trans (show _ = some (.int .i64 s2) from rfl); have hw2 := (blk_cell FW.out.now.1 2).trans (show _ = some (.slice A4 s3.length c4) from rfl); have hg0 := (blk_cell HGB.out.now 0).trans (show _ = some (.int .i64 s1) from rfl); have hg1 := (blk_cell HGB.out.now 1).trans (show _ = some (.int .i64 s2) from rfl); have hg2 := (blk_cell HGB.out.now 2).trans (show _ = some (.slice A7 s3.length c7) from rfl); clear hb)
    go_ret
    exact ⟨rfl, HB.out⟩
  · rw [if_neg hc] at h
    cases h

end Go.Proofs.Ytcmkkoggdcjceaa.PFnExactAtMostEx
