/- FnExactWordBits: for every input the law returns true. The texts that this program's session printed and proved for it, those that the proof uses, laid together. Conditions: the form's own reach alone. -/
import Derived.Test.YtcmkkoggdcjceaaQFnExactWordBits3
import Derived.Deep.Slices
import Derived.ChangeArms
import Derived.SizedLaws
import Derived.Test.YtcmkkoggdcjceaaRows
import Derived.WalkKit
import Derived.ProofKit
import Derived.OpenShut
import Derived.ShutString
import Derived.ChangeOld
import Derived.Below
section
namespace Go.Proofs.Ytcmkkoggdcjceaa.PFnExactWordBits
open Go.RowKit Go.Proofs.YtcmkkoggdcjceaaW.PrintWords Go.Proofs.YtcmkkoggdcjceaaW.PrintLast Go.Proofs.YtcmkkoggdcjceaaW.PrintMore
attribute [local go_sem] max2_int min2_int max_two min_two max_three min_three max_four min_four   -- for this text's walks alone
set_option linter.unusedVariables false
set_option linter.unusedSimpArgs false
def laws_eqWord.g (F_ : List (S81) → List (S81) → Option (Bool)) (a0_0 : Int) (a0_1 : Int) (l0_2 : List (S81)) (a1_0 : Int) (a1_1 : Int) (l1_2 : List (S81)) : Option (Bool) := if a0_0 = a1_0 then (if a0_1 = a1_1 then ((F_ l0_2 l1_2).bind fun t158 => (if t158 = true then (some true) else (some false))) else (some false)) else (some false)
mutual
def laws_eqWordS.l0 : Nat → List (S81) → List (S81) → Int → Option (Bool)
 | 0, _, _, _ => none
 | k + 1, x0, x1, x5 => if x5 < (x0.length : Int) then (if 0 ≤ x5 then (if x5 < (x1.length : Int) then ((laws_eqWord.g (laws_eqWordS.f k) ((rd_T81 x0 x5).f0) ((rd_T81 x0 x5).f1) ((rd_T81 x0 x5).f2) ((rd_T81 x1 x5).f0) ((rd_T81 x1 x5).f1) ((rd_T81 x1 x5).f2)).bind fun t161 => (if t161 = true then (laws_eqWordS.l0 k x0 x1 (wrap64 (x5 + 1))) else (some false))) else (none)) else (none)) else (some true)
def laws_eqWordS.f : Nat → List (S81) → List (S81) → Option (Bool)
 | 0, _, _ => none
 | k + 1, l0, l1 => if (l0.length : Int) = (l1.length : Int) then (laws_eqWordS.l0 k l0 l1 0) else (some false)
end
def laws_eqWordS.T6 : Bool × List (List Nat × List Nat) := (true, [([], []), ([], []), ([0, 1], [0, 1]), ([2], [2]), ([], []), ([], []), ([4, 5], [4, 5]), ([6], [6]), ([3, 7], [3, 7]), ([8], [8])])
def laws_eqWordS.B6 : List Nat := [0, 0, 3, 7, 0, 0, 48, 112, 255, 511]
theorem laws_eqWordS.tab6 : rtab .any (opsOf Try.f106 6) = laws_eqWordS.T6 := by kernel_rfl
theorem laws_eqWordS.bits6 : waitsOk laws_eqWordS.T6.2 laws_eqWordS.B6 = true := by kernel_rfl
set_option maxHeartbeats 8000000 in
set_option maxRecDepth 100000 in
theorem laws_eqWord.calls_g (k : Nat) (hF_ : ∀ (A0 : Option Addr) (c0 : Nat) (l0 : List (S81)) (A1 : Option Addr) (c1 : Nat) (l1 : List (S81)) (r : Bool) (w : World) (hr0 : Kd.C k81 w A0 l0.length l0) (hc0 : l0.length ≤ c0) (hr1 : Kd.C k81 w A1 l1.length l1) (hc1 : l1.length ≤ c1) (h : laws_eqWordS.f k l0 l1 = some r), Calls Try.prog 106 #[.slice A0 l0.length c0, .slice A1 l1.length c1] w fun e w' => e = .returned (.bool r) ∧ Below w.heap.size w w') (a0_0 : Int) (a0_1 : Int) (A0_2 : Option Addr) (c0_2 : Nat) (l0_2 : List (S81)) (a1_0 : Int) (a1_1 : Int) (A1_2 : Option Addr) (c1_2 : Nat) (l1_2 : List (S81)) (r : Bool) (w : World) (hr0_2 : Kd.C k81 w A0_2 l0_2.length l0_2) (hc0_2 : l0_2.length ≤ c0_2) (hr1_2 : Kd.C k81 w A1_2 l1_2.length l1_2) (hc1_2 : l1_2.length ≤ c1_2) (h : laws_eqWord.g (laws_eqWordS.f k) a0_0 a0_1 l0_2 a1_0 a1_1 l1_2 = some r) :
  Calls Try.prog 50 #[.agg #[.int .i64 a0_0, .int .i64 a0_1, .slice A0_2 l0_2.length c0_2], .agg #[.int .i64 a1_0, .int .i64 a1_1, .slice A1_2 l1_2.length c1_2]] w fun e w' => e = .returned (.bool r) ∧ Below w.heap.size w w' := by
 have hu81 := Try.underlying81
 have HR0_2 := Aside0.mk hr0_2
 have HC0_2 := Aside0.mk hc0_2
 clear hr0_2 hc0_2
 have HR1_2 := Aside0.mk hr1_2
 have HC1_2 := Aside0.mk hc1_2
 clear hr1_2 hc1_2
 have HB := Aside0.mk (Below.refl w.heap.size w)
 have H : (if a0_0 = a1_0 then (if a0_1 = a1_1 then ((laws_eqWordS.f k l0_2 l1_2).bind fun t158 => (if t158 = true then (some true) else (some false))) else (some false)) else (some false)) = some r := h
 clear h
 by_cases c3 : a0_0 = a1_0
 ·rw [if_pos c3] at H
  have c3b0 : (a0_0 == a1_0) = true := beq_iff_eq.mpr c3
  have c3b1 : (a0_0 != a1_0) = false := bne_eq_false_iff_eq.mpr c3
  clear c3
  by_cases c4 : a0_1 = a1_1
  ·rw [if_pos c4] at H
   have c4b0 : (a0_1 == a1_1) = true := beq_iff_eq.mpr c4
   have c4b1 : (a0_1 != a1_1) = false := bne_eq_false_iff_eq.mpr c4
   clear c4
   replace H := Option.bind_eq_some_iff.mp H
   obtain ⟨t158, A50, H⟩ := H
   replace H : (if t158 = true then (some true) else (some false)) = some r := H
   have A5 := Aside0.mk A50
   clear A50
   by_cases c6 : t158 = true
   ·subst c6
    have H1 : (some true) = some r := by rw [if_pos rfl] at H; exact H
    clear H
    have H := H1
    clear H1
    obtain rfl := Option.some.inj H
    go_enter Try.func50, Try.ntmps50
    go_wp2_with (first | ((with_reducible refine gate_dst (N := 2) rfl ?_); refine box_event ?hg (N := 2) ?hd (cs := #[.int .i64 a0_0, .int .i64 a0_1, .slice A0_2 l0_2.length c0_2]) (t := 81) ?hr ?_; (case hd => rfl); (case hg => rfl); (case hr => first | (go_simp; done) | (go_simp; rfl)); intro gb156 hg w7 hbox hb; have n0_ := Aside0.mk (below_step (by repeat (first | (with_reducible first | exact HB.out | apply below_alloc | apply pw_below_drewN | apply below_drew1) | exact HB.out)) hb); have n1_ := Aside0.mk (hbox); have n2_ := Aside0.mk ((by rw [hg]; exact (below_size (by repeat (first | (with_reducible first | exact HB.out | apply below_alloc | apply pw_below_drewN | apply below_drew1) | exact HB.out))) : w.heap.size ≤ gb156)); have n3_ := Aside0.mk ((by rw [hg]; exact (below_size (by repeat (first | (with_reducible first | exact HB.out | apply below_alloc | apply pw_below_drewN | apply below_drew1) | exact HB.out))) : w.heap.size ≤ gb156)); clear HB; have HB := n0_; have BK156 := n1_; have GW156 := n2_; have GE156 := n3_; clear n0_ n1_ n2_ n3_; clear hb hbox hg) | ((with_reducible refine gate_dst (N := 3) rfl ?_); refine box_event ?hg (N := 3) ?hd (cs := #[.int .i64 a1_0, .int .i64 a1_1, .slice A1_2 l1_2.length c1_2]) (t := 81) ?hr ?_; (case hd => rfl); (case hg => rfl); (case hr => first | (go_simp; done) | (go_simp; rfl)); intro gb157 hg w8 hbox hb; have n0_ := Aside0.mk (blk_below (g := gb156) (o := .cells #[.int .i64 a0_0, .int .i64 a0_1, .slice A0_2 l0_2.length c0_2] 81 (0, 0)) (by (with_reducible repeat (first | refine blk_drewN ?_ _ | refine blk_drew ?_ | refine blk_alloc ?_ _)); exact BK156.out) hb); have n1_ := Aside0.mk (below_step (by repeat (first | (with_reducible first | exact HB.out | apply below_alloc | apply pw_below_drewN | apply below_drew1 | refine below_set ?_ GE156.out) | exact HB.out)) hb); have n2_ := Aside0.mk (hbox); have n3_ := Aside0.mk ((by rw [hg]; exact (below_size (by repeat (first | (with_reducible first | exact HB.out | apply below_alloc | apply pw_below_drewN | apply below_drew1 | refine below_set ?_ GE156.out) | exact HB.out))) : w.heap.size ≤ gb157)); have n4_ := Aside0.mk ((by rw [hg]; exact (below_size (by repeat (first | (with_reducible first | exact HB.out | apply below_alloc | apply pw_below_drewN | apply below_drew1 | refine below_set ?_ GE156.out) | exact HB.out))) : w.heap.size ≤ gb157)); have n5_ := Aside0.mk ((by rw [hg]; exact Nat.ne_of_lt (blk_lt (g := gb156) (o := .cells #[.int .i64 a0_0, .int .i64 a0_1, .slice A0_2 l0_2.length c0_2] 81 (0, 0)) (by (with_reducible repeat (first | refine blk_drewN ?_ _ | refine blk_drew ?_ | refine blk_alloc ?_ _)); exact BK156.out)) : gb156 ≠ gb157)); have n6_ := Aside0.mk ((by rw [hg]; exact Nat.ne_of_gt (blk_lt (g := gb156) (o := .cells #[.int .i64 a0_0, .int .i64 a0_1, .slice A0_2 l0_2.length c0_2] 81 (0, 0)) (by (with_reducible repeat (first | refine blk_drewN ?_ _ | refine blk_drew ?_ | refine blk_alloc ?_ _)); exact BK156.out)) : gb157 ≠ gb156)); clear BK156; clear HB; have BK156 := n0_; have HB := n1_; have BK157 := n2_; have GW157 := n3_; have GE157 := n4_; have NB156_157 := n5_; have NB157_156 := n6_; clear n0_ n1_ n2_ n3_ n4_ n5_ n6_; clear hb hbox hg; have hnb9 := NB156_157.out; have hnc9 := NB157_156.out; have hcz10_0 : w8.cell? ⟨gb156, 0, none⟩ = some (.int .i64 a0_0) := (blk_cell BK156.out 0).trans rfl; have hcz10_1 : w8.cell? ⟨gb156, 1, none⟩ = some (.int .i64 a0_1) := (blk_cell BK156.out 1).trans rfl; have hcz10_2 : w8.cell? ⟨gb156, 2, none⟩ = some (.slice A0_2 l0_2.length c0_2) := (blk_cell BK156.out 2).trans rfl; have hfz10_0 := blk_frozen BK156.out 0; have hfz10_1 := blk_frozen BK156.out 1; have hfz10_2 := blk_frozen BK156.out 2; have hcz11_0 : w8.cell? ⟨gb157, 0, none⟩ = some (.int .i64 a1_0) := (blk_cell BK157.out 0).trans rfl; have hcz11_1 : w8.cell? ⟨gb157, 1, none⟩ = some (.int .i64 a1_1) := (blk_cell BK157.out 1).trans rfl; have hcz11_2 : w8.cell? ⟨gb157, 2, none⟩ = some (.slice A1_2 l1_2.length c1_2) := (blk_cell BK157.out 2).trans rfl; have hfz11_0 := blk_frozen BK157.out 0; have hfz11_1 := blk_frozen BK157.out 1; have hfz11_2 := blk_frozen BK157.out 2) | ((with_reducible refine gate_callee (f := 106) rfl ?_); refine goesL_ (some 19) rfl rfl Try.func106 (by kernel_rfl) rfl #[.slice A0_2 l0_2.length c0_2, .slice A1_2 l1_2.length c1_2] rfl (by (try simp only [List.map_toArray, List.map_cons, List.map_nil]); first | done | rfl | (simp only [List.length_drop, List.length_take]; rfl)) ?_; (with_reducible refine (hF_ _ _ l0_2 _ _ l1_2 true _ ?side1 ?side2 ?side3 ?side4 A5.out).mono ?_); (case side1 => repeat (first | exact (Kd.C_below HR0_2.out HB.out) | (with_reducible refine Kd.C_alloc ?_ _) | (with_reducible refine Kd.C_drewN ?_ _) | (with_reducible refine Kd.C_drew ?_))); (case side2 => exact HC0_2.out); (case side3 => repeat (first | exact (Kd.C_below HR1_2.out HB.out) | (with_reducible refine Kd.C_alloc ?_ _) | (with_reducible refine Kd.C_drewN ?_ _) | (with_reducible refine Kd.C_drew ?_))); (case side4 => exact HC1_2.out); rintro e w12 ⟨rfl, hb⟩; refine ⟨_, rfl, ?_⟩; have n0_ := Aside0.mk (blk_below (g := gb156) (o := .cells #[.int .i64 a0_0, .int .i64 a0_1, .slice A0_2 l0_2.length c0_2] 81 (0, 0)) (by (with_reducible repeat (first | refine blk_drewN ?_ _ | refine blk_drew ?_ | refine blk_alloc ?_ _)); exact BK156.out) hb); have n1_ := Aside0.mk (blk_below (g := gb157) (o := .cells #[.int .i64 a1_0, .int .i64 a1_1, .slice A1_2 l1_2.length c1_2] 81 (0, 0)) (by (with_reducible repeat (first | refine blk_drewN ?_ _ | refine blk_drew ?_ | refine blk_alloc ?_ _)); exact BK157.out) hb); have n2_ := Aside0.mk (below_step (by repeat (first | (with_reducible first | exact HB.out | apply below_alloc | apply pw_below_drewN | apply below_drew1 | refine below_set ?_ GE156.out | refine below_set ?_ GE157.out) | exact HB.out)) hb); clear BK156; clear BK157; clear HB; have BK156 := n0_; have BK157 := n1_; have HB := n2_; clear n0_ n1_ n2_; (try clear hb); (try clear hb2); (try clear hk); (try clear hi)))
    go_ret
    exact ⟨by first | rfl | (simp [errW_none, errW_some] <;> rfl) | (simp [*, errW_none, errW_some] <;> rfl), by repeat (first | (with_reducible first | exact HB.out | apply below_alloc | apply pw_below_drewN | apply below_drew1 | refine below_set ?_ GE156.out | refine below_set ?_ GE157.out) | exact HB.out)⟩
   ·replace c6 := Bool.eq_false_iff.mpr c6
    subst c6
    have H1 : (some false) = some r := by rw [if_neg (show ¬ (false = true) by decide)] at H; exact H
    clear H
    have H := H1
    clear H1
    obtain rfl := Option.some.inj H
    go_enter Try.func50, Try.ntmps50
    go_wp2_with (first | ((with_reducible refine gate_dst (N := 2) rfl ?_); refine box_event ?hg (N := 2) ?hd (cs := #[.int .i64 a0_0, .int .i64 a0_1, .slice A0_2 l0_2.length c0_2]) (t := 81) ?hr ?_; (case hd => rfl); (case hg => rfl); (case hr => first | (go_simp; done) | (go_simp; rfl)); intro gb156 hg w13 hbox hb; have n0_ := Aside0.mk (below_step (by repeat (first | (with_reducible first | exact HB.out | apply below_alloc | apply pw_below_drewN | apply below_drew1) | exact HB.out)) hb); have n1_ := Aside0.mk (hbox); have n2_ := Aside0.mk ((by rw [hg]; exact (below_size (by repeat (first | (with_reducible first | exact HB.out | apply below_alloc | apply pw_below_drewN | apply below_drew1) | exact HB.out))) : w.heap.size ≤ gb156)); have n3_ := Aside0.mk ((by rw [hg]; exact (below_size (by repeat (first | (with_reducible first | exact HB.out | apply below_alloc | apply pw_below_drewN | apply below_drew1) | exact HB.out))) : w.heap.size ≤ gb156)); clear HB; have HB := n0_; have BK156 := n1_; have GW156 := n2_; have GE156 := n3_; clear n0_ n1_ n2_ n3_; clear hb hbox hg) | ((with_reducible refine gate_dst (N := 3) rfl ?_); refine box_event ?hg (N := 3) ?hd (cs := #[.int .i64 a1_0, .int .i64 a1_1, .slice A1_2 l1_2.length c1_2]) (t := 81) ?hr ?_; (case hd => rfl); (case hg => rfl); (case hr => first | (go_simp; done) | (go_simp; rfl)); intro gb157 hg w14 hbox hb; have n0_ := Aside0.mk (blk_below (g := gb156) (o := .cells #[.int .i64 a0_0, .int .i64 a0_1, .slice A0_2 l0_2.length c0_2] 81 (0, 0)) (by (with_reducible repeat (first | refine blk_drewN ?_ _ | refine blk_drew ?_ | refine blk_alloc ?_ _)); exact BK156.out) hb); have n1_ := Aside0.mk (below_step (by repeat (first | (with_reducible first | exact HB.out | apply below_alloc | apply pw_below_drewN | apply below_drew1 | refine below_set ?_ GE156.out) | exact HB.out)) hb); have n2_ := Aside0.mk (hbox); have n3_ := Aside0.mk ((by rw [hg]; exact (below_size (by repeat (first | (with_reducible first | exact HB.out | apply below_alloc | apply pw_below_drewN | apply below_drew1 | refine below_set ?_ GE156.out) | exact HB.out))) : w.heap.size ≤ gb157)); have n4_ := Aside0.mk ((by rw [hg]; exact (below_size (by repeat (first | (with_reducible first | exact HB.out | apply below_alloc | apply pw_below_drewN | apply below_drew1 | refine below_set ?_ GE156.out) | exact HB.out))) : w.heap.size ≤ gb157)); have n5_ := Aside0.mk ((by rw [hg]; exact Nat.ne_of_lt (blk_lt (g := gb156) (o := .cells #[.int .i64 a0_0, .int .i64 a0_1, .slice A0_2 l0_2.length c0_2] 81 (0, 0)) (by (with_reducible repeat (first | refine blk_drewN ?_ _ | refine blk_drew ?_ | refine blk_alloc ?_ _)); exact BK156.out)) : gb156 ≠ gb157)); have n6_ := Aside0.mk ((by rw [hg]; exact Nat.ne_of_gt (blk_lt (g := gb156) (o := .cells #[.int .i64 a0_0, .int .i64 a0_1, .slice A0_2 l0_2.length c0_2] 81 (0, 0)) (by (with_reducible repeat (first | refine blk_drewN ?_ _ | refine blk_drew ?_ | refine blk_alloc ?_ _)); exact BK156.out)) : gb157 ≠ gb156)); clear BK156; clear HB; have BK156 := n0_; have HB := n1_; have BK157 := n2_; have GW157 := n3_; have GE157 := n4_; have NB156_157 := n5_; have NB157_156 := n6_; clear n0_ n1_ n2_ n3_ n4_ n5_ n6_; clear hb hbox hg; have hnb15 := NB156_157.out; have hnc15 := NB157_156.out; have hcz16_0 : w14.cell? ⟨gb156, 0, none⟩ = some (.int .i64 a0_0) := (blk_cell BK156.out 0).trans rfl; have hcz16_1 : w14.cell? ⟨gb156, 1, none⟩ = some (.int .i64 a0_1) := (blk_cell BK156.out 1).trans rfl; have hcz16_2 : w14.cell? ⟨gb156, 2, none⟩ = some (.slice A0_2 l0_2.length c0_2) := (blk_cell BK156.out 2).trans rfl; have hfz16_0 := blk_frozen BK156.out 0; have hfz16_1 := blk_frozen BK156.out 1; have hfz16_2 := blk_frozen BK156.out 2; have hcz17_0 : w14.cell? ⟨gb157, 0, none⟩ = some (.int .i64 a1_0) := (blk_cell BK157.out 0).trans rfl; have hcz17_1 : w14.cell? ⟨gb157, 1, none⟩ = some (.int .i64 a1_1) := (blk_cell BK157.out 1).trans rfl; have hcz17_2 : w14.cell? ⟨gb157, 2, none⟩ = some (.slice A1_2 l1_2.length c1_2) := (blk_cell BK157.out 2).trans rfl; have hfz17_0 := blk_frozen BK157.out 0; have hfz17_1 := blk_frozen BK157.out 1; have hfz17_2 := blk_frozen BK157.out 2) | ((with_reducible refine gate_callee (f := 106) rfl ?_); refine goesL_ (some 19) rfl rfl Try.func106 (by kernel_rfl) rfl #[.slice A0_2 l0_2.length c0_2, .slice A1_2 l1_2.length c1_2] rfl (by (try simp only [List.map_toArray, List.map_cons, List.map_nil]); first | done | rfl | (simp only [List.length_drop, List.length_take]; rfl)) ?_; (with_reducible refine (hF_ _ _ l0_2 _ _ l1_2 false _ ?side1 ?side2 ?side3 ?side4 A5.out).mono ?_); (case side1 => repeat (first | exact (Kd.C_below HR0_2.out HB.out) | (with_reducible refine Kd.C_alloc ?_ _) | (with_reducible refine Kd.C_drewN ?_ _) | (with_reducible refine Kd.C_drew ?_))); (case side2 => exact HC0_2.out); (case side3 => repeat (first | exact (Kd.C_below HR1_2.out HB.out) | (with_reducible refine Kd.C_alloc ?_ _) | (with_reducible refine Kd.C_drewN ?_ _) | (with_reducible refine Kd.C_drew ?_))); (case side4 => exact HC1_2.out); rintro e w18 ⟨rfl, hb⟩; refine ⟨_, rfl, ?_⟩; have n0_ := Aside0.mk (blk_below (g := gb156) (o := .cells #[.int .i64 a0_0, .int .i64 a0_1, .slice A0_2 l0_2.length c0_2] 81 (0, 0)) (by (with_reducible repeat (first | refine blk_drewN ?_ _ | refine blk_drew ?_ | refine blk_alloc ?_ _)); exact BK156.out) hb); have n1_ := Aside0.mk (blk_below (g := gb157) (o := .cells #[.int .i64 a1_0, .int .i64 a1_1, .slice A1_2 l1_2.length c1_2] 81 (0, 0)) (by (with_reducible repeat (first | refine blk_drewN ?_ _ | refine blk_drew ?_ | refine blk_alloc ?_ _)); exact BK157.out) hb); have n2_ := Aside0.mk (below_step (by repeat (first | (with_reducible first | exact HB.out | apply below_alloc | apply pw_below_drewN | apply below_drew1 | refine below_set ?_ GE156.out | refine below_set ?_ GE157.out) | exact HB.out)) hb); clear BK156; clear BK157; clear HB; have BK156 := n0_; have BK157 := n1_; have HB := n2_; clear n0_ n1_ n2_; (try clear hb); (try clear hb2); (try clear hk); (try clear hi)))
    go_ret
    exact ⟨by first | rfl | (simp [errW_none, errW_some] <;> rfl) | (simp [*, errW_none, errW_some] <;> rfl), by repeat (first | (with_reducible first | exact HB.out | apply below_alloc | apply pw_below_drewN | apply below_drew1 | refine below_set ?_ GE156.out | refine below_set ?_ GE157.out) | exact HB.out)⟩
  ·rw [if_neg c4] at H
   have c4b0 : (a0_1 == a1_1) = false := beq_eq_false_iff_ne.mpr c4
   have c4b1 : (a0_1 != a1_1) = true := bne_iff_ne.mpr c4
   obtain rfl := Option.some.inj H
   go_enter Try.func50, Try.ntmps50
   go_wp2_with (first | ((with_reducible refine gate_dst (N := 2) rfl ?_); refine box_event ?hg (N := 2) ?hd (cs := #[.int .i64 a0_0, .int .i64 a0_1, .slice A0_2 l0_2.length c0_2]) (t := 81) ?hr ?_; (case hd => rfl); (case hg => rfl); (case hr => first | (go_simp; done) | (go_simp; rfl)); intro gb156 hg w19 hbox hb; have n0_ := Aside0.mk (below_step (by repeat (first | (with_reducible first | exact HB.out | apply below_alloc | apply pw_below_drewN | apply below_drew1) | exact HB.out)) hb); have n1_ := Aside0.mk (hbox); have n2_ := Aside0.mk ((by rw [hg]; exact (below_size (by repeat (first | (with_reducible first | exact HB.out | apply below_alloc | apply pw_below_drewN | apply below_drew1) | exact HB.out))) : w.heap.size ≤ gb156)); have n3_ := Aside0.mk ((by rw [hg]; exact (below_size (by repeat (first | (with_reducible first | exact HB.out | apply below_alloc | apply pw_below_drewN | apply below_drew1) | exact HB.out))) : w.heap.size ≤ gb156)); clear HB; have HB := n0_; have BK156 := n1_; have GW156 := n2_; have GE156 := n3_; clear n0_ n1_ n2_ n3_; clear hb hbox hg) | ((with_reducible refine gate_dst (N := 3) rfl ?_); refine box_event ?hg (N := 3) ?hd (cs := #[.int .i64 a1_0, .int .i64 a1_1, .slice A1_2 l1_2.length c1_2]) (t := 81) ?hr ?_; (case hd => rfl); (case hg => rfl); (case hr => first | (go_simp; done) | (go_simp; rfl)); intro gb157 hg w20 hbox hb; have n0_ := Aside0.mk (blk_below (g := gb156) (o := .cells #[.int .i64 a0_0, .int .i64 a0_1, .slice A0_2 l0_2.length c0_2] 81 (0, 0)) (by (with_reducible repeat (first | refine blk_drewN ?_ _ | refine blk_drew ?_ | refine blk_alloc ?_ _)); exact BK156.out) hb); have n1_ := Aside0.mk (below_step (by repeat (first | (with_reducible first | exact HB.out | apply below_alloc | apply pw_below_drewN | apply below_drew1 | refine below_set ?_ GE156.out) | exact HB.out)) hb); have n2_ := Aside0.mk (hbox); have n3_ := Aside0.mk ((by rw [hg]; exact (below_size (by repeat (first | (with_reducible first | exact HB.out | apply below_alloc | apply pw_below_drewN | apply below_drew1 | refine below_set ?_ GE156.out) | exact HB.out))) : w.heap.size ≤ gb157)); have n4_ := Aside0.mk ((by rw [hg]; exact (below_size (by repeat (first | (with_reducible first | exact HB.out | apply below_alloc | apply pw_below_drewN | apply below_drew1 | refine below_set ?_ GE156.out) | exact HB.out))) : w.heap.size ≤ gb157)); have n5_ := Aside0.mk ((by rw [hg]; exact Nat.ne_of_lt (blk_lt (g := gb156) (o := .cells #[.int .i64 a0_0, .int .i64 a0_1, .slice A0_2 l0_2.length c0_2] 81 (0, 0)) (by (with_reducible repeat (first | refine blk_drewN ?_ _ | refine blk_drew ?_ | refine blk_alloc ?_ _)); exact BK156.out)) : gb156 ≠ gb157)); have n6_ := Aside0.mk ((by rw [hg]; exact Nat.ne_of_gt (blk_lt (g := gb156) (o := .cells #[.int .i64 a0_0, .int .i64 a0_1, .slice A0_2 l0_2.length c0_2] 81 (0, 0)) (by (with_reducible repeat (first | refine blk_drewN ?_ _ | refine blk_drew ?_ | refine blk_alloc ?_ _)); exact BK156.out)) : gb157 ≠ gb156)); clear BK156; clear HB; have BK156 := n0_; have HB := n1_; have BK157 := n2_; have GW157 := n3_; have GE157 := n4_; have NB156_157 := n5_; have NB157_156 := n6_; clear n0_ n1_ n2_ n3_ n4_ n5_ n6_; clear hb hbox hg; have hnb21 := NB156_157.out; have hnc21 := NB157_156.out; have hcz22_0 : w20.cell? ⟨gb156, 0, none⟩ = some (.int .i64 a0_0) := (blk_cell BK156.out 0).trans rfl; have hcz22_1 : w20.cell? ⟨gb156, 1, none⟩ = some (.int .i64 a0_1) := (blk_cell BK156.out 1).trans rfl; have hcz22_2 : w20.cell? ⟨gb156, 2, none⟩ = some (.slice A0_2 l0_2.length c0_2) := (blk_cell BK156.out 2).trans rfl; have hfz22_0 := blk_frozen BK156.out 0; have hfz22_1 := blk_frozen BK156.out 1; have hfz22_2 := blk_frozen BK156.out 2; have hcz23_0 : w20.cell? ⟨gb157, 0, none⟩ = some (.int .i64 a1_0) := (blk_cell BK157.out 0).trans rfl; have hcz23_1 : w20.cell? ⟨gb157, 1, none⟩ = some (.int .i64 a1_1) := (blk_cell BK157.out 1).trans rfl; have hcz23_2 : w20.cell? ⟨gb157, 2, none⟩ = some (.slice A1_2 l1_2.length c1_2) := (blk_cell BK157.out 2).trans rfl; have hfz23_0 := blk_frozen BK157.out 0; have hfz23_1 := blk_frozen BK157.out 1; have hfz23_2 := blk_frozen BK157.out 2))
   go_ret
   exact ⟨by first | rfl | (simp [errW_none, errW_some] <;> rfl) | (simp [*, errW_none, errW_some] <;> rfl), by repeat (first | (with_reducible first | exact HB.out | apply below_alloc | apply pw_below_drewN | apply below_drew1 | refine below_set ?_ GE156.out | refine below_set ?_ GE157.out) | exact HB.out)⟩
 ·rw [if_neg c3] at H
  have c3b0 : (a0_0 == a1_0) = false := beq_eq_false_iff_ne.mpr c3
  have c3b1 : (a0_0 != a1_0) = true := bne_iff_ne.mpr c3
  obtain rfl := Option.some.inj H
  go_enter Try.func50, Try.ntmps50
  go_wp2_with (first | ((with_reducible refine gate_dst (N := 2) rfl ?_); refine box_event ?hg (N := 2) ?hd (cs := #[.int .i64 a0_0, .int .i64 a0_1, .slice A0_2 l0_2.length c0_2]) (t := 81) ?hr ?_; (case hd => rfl); (case hg => rfl); (case hr => first | (go_simp; done) | (go_simp; rfl)); intro gb156 hg w24 hbox hb; have n0_ := Aside0.mk (below_step (by repeat (first | (with_reducible first | exact HB.out | apply below_alloc | apply pw_below_drewN | apply below_drew1) | exact HB.out)) hb); have n1_ := Aside0.mk (hbox); have n2_ := Aside0.mk ((by rw [hg]; exact (below_size (by repeat (first | (with_reducible first | exact HB.out | apply below_alloc | apply pw_below_drewN | apply below_drew1) | exact HB.out))) : w.heap.size ≤ gb156)); have n3_ := Aside0.mk ((by rw [hg]; exact (below_size (by repeat (first | (with_reducible first | exact HB.out | apply below_alloc | apply pw_below_drewN | apply below_drew1) | exact HB.out))) : w.heap.size ≤ gb156)); clear HB; have HB := n0_; have BK156 := n1_; have GW156 := n2_; have GE156 := n3_; clear n0_ n1_ n2_ n3_; clear hb hbox hg) | ((with_reducible refine gate_dst (N := 3) rfl ?_); refine box_event ?hg (N := 3) ?hd (cs := #[.int .i64 a1_0, .int .i64 a1_1, .slice A1_2 l1_2.length c1_2]) (t := 81) ?hr ?_; (case hd => rfl); (case hg => rfl); (case hr => first | (go_simp; done) | (go_simp; rfl)); intro gb157 hg w25 hbox hb; have n0_ := Aside0.mk (blk_below (g := gb156) (o := .cells #[.int .i64 a0_0, .int .i64 a0_1, .slice A0_2 l0_2.length c0_2] 81 (0, 0)) (by (with_reducible repeat (first | refine blk_drewN ?_ _ | refine blk_drew ?_ | refine blk_alloc ?_ _)); exact BK156.out) hb); have n1_ := Aside0.mk (below_step (by repeat (first | (with_reducible first | exact HB.out | apply below_alloc | apply pw_below_drewN | apply below_drew1 | refine below_set ?_ GE156.out) | exact HB.out)) hb); have n2_ := Aside0.mk (hbox); have n3_ := Aside0.mk ((by rw [hg]; exact (below_size (by repeat (first | (with_reducible first | exact HB.out | apply below_alloc | apply pw_below_drewN | apply below_drew1 | refine below_set ?_ GE156.out) | exact HB.out))) : w.heap.size ≤ gb157)); have n4_ := Aside0.mk ((by rw [hg]; exact (below_size (by repeat (first | (with_reducible first | exact HB.out | apply below_alloc | apply pw_below_drewN | apply below_drew1 | refine below_set ?_ GE156.out) | exact HB.out))) : w.heap.size ≤ gb157)); have n5_ := Aside0.mk ((by rw [hg]; exact Nat.ne_of_lt (blk_lt (g := gb156) (o := .cells #[.int .i64 a0_0, .int .i64 a0_1, .slice A0_2 l0_2.length c0_2] 81 (0, 0)) (by (with_reducible repeat (first | refine blk_drewN ?_ _ | refine blk_drew ?_ | refine blk_alloc ?_ _)); exact BK156.out)) : gb156 ≠ gb157)); have n6_ := Aside0.mk ((by rw [hg]; exact Nat.ne_of_gt (blk_lt (g := gb156) (o := .cells #[.int .i64 a0_0, .int .i64 a0_1, .slice A0_2 l0_2.length c0_2] 81 (0, 0)) (by (with_reducible repeat (first | refine blk_drewN ?_ _ | refine blk_drew ?_ | refine blk_alloc ?_ _)); exact BK156.out)) : gb157 ≠ gb156)); clear BK156; clear HB; have BK156 := n0_; have HB := n1_; have BK157 := n2_; have GW157 := n3_; have GE157 := n4_; have NB156_157 := n5_; have NB157_156 := n6_; clear n0_ n1_ n2_ n3_ n4_ n5_ n6_; clear hb hbox hg; have hnb26 := NB156_157.out; have hnc26 := NB157_156.out; have hcz27_0 : w25.cell? ⟨gb156, 0, none⟩ = some (.int .i64 a0_0) := (blk_cell BK156.out 0).trans rfl; have hcz27_1 : w25.cell? ⟨gb156, 1, none⟩ = some (.int .i64 a0_1) := (blk_cell BK156.out 1).trans rfl; have hcz27_2 : w25.cell? ⟨gb156, 2, none⟩ = some (.slice A0_2 l0_2.length c0_2) := (blk_cell BK156.out 2).trans rfl; have hfz27_0 := blk_frozen BK156.out 0; have hfz27_1 := blk_frozen BK156.out 1; have hfz27_2 := blk_frozen BK156.out 2; have hcz28_0 : w25.cell? ⟨gb157, 0, none⟩ = some (.int .i64 a1_0) := (blk_cell BK157.out 0).trans rfl; have hcz28_1 : w25.cell? ⟨gb157, 1, none⟩ = some (.int .i64 a1_1) := (blk_cell BK157.out 1).trans rfl; have hcz28_2 : w25.cell? ⟨gb157, 2, none⟩ = some (.slice A1_2 l1_2.length c1_2) := (blk_cell BK157.out 2).trans rfl; have hfz28_0 := blk_frozen BK157.out 0; have hfz28_1 := blk_frozen BK157.out 1; have hfz28_2 := blk_frozen BK157.out 2))
  go_ret
  exact ⟨by first | rfl | (simp [errW_none, errW_some] <;> rfl) | (simp [*, errW_none, errW_some] <;> rfl), by repeat (first | (with_reducible first | exact HB.out | apply below_alloc | apply pw_below_drewN | apply below_drew1 | refine below_set ?_ GE156.out | refine below_set ?_ GE157.out) | exact HB.out)⟩
set_option maxHeartbeats 8000000 in
set_option maxRecDepth 100000 in
theorem laws_eqWordS.calls (k : Nat) : ∀ (A0 : Option Addr) (c0 : Nat) (l0 : List (S81)) (A1 : Option Addr) (c1 : Nat) (l1 : List (S81)) (r : Bool) (w : World) (hr0 : Kd.C k81 w A0 l0.length l0) (hc0 : l0.length ≤ c0) (hr1 : Kd.C k81 w A1 l1.length l1) (hc1 : l1.length ≤ c1) (h : laws_eqWordS.f k l0 l1 = some r),
  Calls Try.prog 106 #[.slice A0 l0.length c0, .slice A1 l1.length c1] w fun e w' => e = .returned (.bool r) ∧ Below w.heap.size w w' := by
 induction k using Nat.strongRecOn with
 | _ k ih =>
 intro A0 c0 l0 A1 c1 l1 r w hr0 hc0 hr1 hc1 h
 cases k with
 | zero => exact absurd h (by simp [laws_eqWordS.f])
 | succ k =>
 simp only [laws_eqWordS.f] at h
 have hu81 := Try.underlying81
 have HR0 := Aside0.mk hr0
 have HC0 := Aside0.mk hc0
 clear hr0 hc0
 have HR1 := Aside0.mk hr1
 have HC1 := Aside0.mk hc1
 clear hr1 hc1
 have HB := Aside0.mk (Below.refl w.heap.size w)
 have H : (if (l0.length : Int) = (l1.length : Int) then (laws_eqWordS.l0 k l0 l1 0) else (some false)) = some r := h
 clear h
 by_cases c3 : (l0.length : Int) = (l1.length : Int)
 ·rw [if_pos c3] at H
  have c3b0 : ((l0.length : Int) == (l1.length : Int)) = true := beq_iff_eq.mpr c3
  have c3b1 : ((l0.length : Int) != (l1.length : Int)) = false := bne_eq_false_iff_eq.mpr c3
  have c3b2 : (l0.length == l1.length) = true := by first | simpa using c3 | (simp at c3 ⊢; omega)
  clear c3
  have H' := Aside0.mk H
  clear H
  go_enter Try.func106, Try.ntmps106
  go_wp2
  go_loopg [5] k (fun kq v5 w' => ∃ (x5_1 : Int), v5 = .int .i64 x5_1 ∧ Aside0 (laws_eqWordS.l0 kq l0 l1 x5_1 = some r) ∧ Aside0 (kq ≤ k) ∧ Aside0 (Below w.heap.size w w'))
  case atStart => exact ⟨(0), (by first | rfl | (simp; done) | (simp [*]; done)), H', ⟨Nat.le_refl _⟩, ⟨by repeat (first | (with_reducible first | exact HB.out | apply below_alloc | apply pw_below_drewN | apply below_drew1) | exact HB.out)⟩⟩
  case round =>
   clear H'
   try clear c1
   try clear p2
   try clear c3
   try clear c3b0
   try clear c3b1
   try clear c3b2
   obtain ⟨x5_1, rfl, HA, HK1, HB⟩ := hrel
   cases gk with
   | zero => exact absurd HA.out (by simp [laws_eqWordS.l0])
   | succ k1 =>
    have H := HA.out
    clear HA
    simp only [laws_eqWordS.l0] at H
    by_cases c4 : x5_1 < (l0.length : Int)
    ·rw [if_pos c4] at H
     have c4b0 : decide (x5_1 < (l0.length : Int)) = true := decide_eq_true c4
     clear c4
     by_cases c5 : 0 ≤ x5_1
     ·rw [if_pos c5] at H
      have c5b0 : decide (0 ≤ x5_1) = true := decide_eq_true c5
      clear c5
      by_cases c6 : x5_1 < (l1.length : Int)
      ·rw [if_pos c6] at H
       have c6b0 : decide (x5_1 < (l1.length : Int)) = true := decide_eq_true c6
       clear c6
       replace H := Option.bind_eq_some_iff.mp H
       obtain ⟨t161, A70, H⟩ := H
       replace H : (if t161 = true then (laws_eqWordS.l0 k1 l0 l1 (wrap64 (x5_1 + 1))) else (some false)) = some r := H
       have A7 := Aside0.mk A70
       clear A70
       by_cases c8 : t161 = true
       ·subst c8
        have H1 : (laws_eqWordS.l0 k1 l0 l1 (wrap64 (x5_1 + 1))) = some r := by rw [if_pos rfl] at H; exact H
        clear H
        have H := H1
        clear H1
        have H' := Aside0.mk H
        clear H
        try go_wp2
        have n0_ := Aside0.mk (below_drew1 HB.out)
        clear HB
        have HB := n0_
        clear n0_
        have p159 : 0 ≤ (x5_1 : Int) := of_decide_eq_true (by first | (with_reducible assumption) | assumption)
        have q159 : x5_1 < (l0.length : Int) := of_decide_eq_true (by first | (with_reducible assumption) | assumption)
        obtain ⟨ad159, A159_2, c159_2, e159, hx159_0, hx159_1, hx159_2, hl159_2, hi159_2⟩ := at_T81 HR0.out x5_1 p159 q159
        have hw159_2 := hx159_2
        have hw159_1 := hx159_1
        have hw159_0 := hx159_0
        cases e159
        replace hx159_0 := (HB.out.cell (World.block_lt_of_cell? w _ hx159_0)).trans hx159_0
        replace hx159_1 := (HB.out.cell (World.block_lt_of_cell? w _ hx159_1)).trans hx159_1
        replace hx159_2 := (HB.out.cell (World.block_lt_of_cell? w _ hx159_2)).trans hx159_2
        have HR159_2 := Aside0.mk hi159_2
        have HC159_2 := Aside0.mk hl159_2
        clear hi159_2 hl159_2
        replace p159 := eq_true p159
        replace q159 := eq_true q159
        have p160 : 0 ≤ (x5_1 : Int) := of_decide_eq_true (by first | (with_reducible assumption) | assumption)
        have q160 : x5_1 < (l1.length : Int) := of_decide_eq_true (by first | (with_reducible assumption) | assumption)
        obtain ⟨ad160, A160_2, c160_2, e160, hx160_0, hx160_1, hx160_2, hl160_2, hi160_2⟩ := at_T81 HR1.out x5_1 p160 q160
        have hw160_2 := hx160_2
        have hw160_1 := hx160_1
        have hw160_0 := hx160_0
        cases e160
        replace hx160_0 := (HB.out.cell (World.block_lt_of_cell? w _ hx160_0)).trans hx160_0
        replace hx160_1 := (HB.out.cell (World.block_lt_of_cell? w _ hx160_1)).trans hx160_1
        replace hx160_2 := (HB.out.cell (World.block_lt_of_cell? w _ hx160_2)).trans hx160_2
        have HR160_2 := Aside0.mk hi160_2
        have HC160_2 := Aside0.mk hl160_2
        clear hi160_2 hl160_2
        replace p160 := eq_true p160
        replace q160 := eq_true q160
        refine start_ (n := 10) (S := fun w' => w'.cell? (ad159.add ((x5_1).toNat * 3)) = some (.int .i64 ((rd_T81 l0 x5_1).f0)) ∧ w'.cell? ⟨(ad159.add ((x5_1).toNat * 3)).block, (ad159.add ((x5_1).toNat * 3)).off + 1, none⟩ = some (.int .i64 ((rd_T81 l0 x5_1).f1)) ∧ w'.cell? ⟨(ad159.add ((x5_1).toNat * 3)).block, (ad159.add ((x5_1).toNat * 3)).off + 2, none⟩ = some (.slice A159_2 ((rd_T81 l0 x5_1).f2).length c159_2) ∧ w'.cell? (ad160.add ((x5_1).toNat * 3)) = some (.int .i64 ((rd_T81 l1 x5_1).f0)) ∧ w'.cell? ⟨(ad160.add ((x5_1).toNat * 3)).block, (ad160.add ((x5_1).toNat * 3)).off + 1, none⟩ = some (.int .i64 ((rd_T81 l1 x5_1).f1)) ∧ w'.cell? ⟨(ad160.add ((x5_1).toNat * 3)).block, (ad160.add ((x5_1).toNat * 3)).off + 2, none⟩ = some (.slice A160_2 ((rd_T81 l1 x5_1).f2).length c160_2)) (ds := []) #[false, false, false, false, false, false, false, false, false, false] (by kernel_rfl) rfl rfl ⟨((HB.out.cell (World.block_lt_of_cell? w _ hw159_0)).trans hw159_0), ((HB.out.cell (World.block_lt_of_cell? w _ hw159_1)).trans hw159_1), ((HB.out.cell (World.block_lt_of_cell? w _ hw159_2)).trans hw159_2), ((HB.out.cell (World.block_lt_of_cell? w _ hw160_0)).trans hw160_0), ((HB.out.cell (World.block_lt_of_cell? w _ hw160_1)).trans hw160_1), ((HB.out.cell (World.block_lt_of_cell? w _ hw160_2)).trans hw160_2)⟩ (fun hHeld => ?_); refine with_tabW laws_eqWordS.tab6 laws_eqWordS.bits6 (fun HT_ HW_ => ?_)
        generalize wr.drew = w9 at HB HR159_2 HR160_2 hx159_0 hx159_1 hx159_2 hx160_0 hx160_1 hx160_2 hHeld ⊢
        refine pure_ (i := 0) (N := some 17) (v := ?_) (a' := ?_) #[true, false, false, false, false, false, false, false, false, false] rfl rfl (any_of HT_.out (by kernel_rfl)) (fun _ _ _ h => h) (Or.inl ⟨by rfl, ?_⟩) ?_ ?_
        rotate_left
        ·intro w'
         go_simp
         with_reducible rfl
        rotate_left
        ·simp only [Act.put, List.setIfInBounds_toArray, List.set_cons_zero, List.set_cons_succ, i64_w, i32_w]
         rfl
        refine pure_ (i := 1) (N := some 18) (v := ?_) (a' := ?_) #[true, true, false, false, false, false, false, false, false, false] rfl rfl (any_of HT_.out (by kernel_rfl)) (fun _ _ _ h => h) (Or.inl ⟨by rfl, ?_⟩) ?_ ?_
        rotate_left
        ·intro w'
         go_simp
         with_reducible rfl
        rotate_left
        ·simp only [Act.put, List.setIfInBounds_toArray, List.set_cons_zero, List.set_cons_succ, i64_w, i32_w]
         rfl
        refine pure_ (i := 2) (N := some 19) (v := ?_) (a' := ?_) #[true, true, true, false, false, false, false, false, false, false] rfl rfl (any_of HT_.out (by kernel_rfl)) (fun _ _ _ h => h) (Or.inl ⟨by rfl, ?_⟩) ?_ ?_
        rotate_left
        ·intro w'
         go_simp
         with_reducible rfl
        rotate_left
        ·simp only [Act.put, List.setIfInBounds_toArray, List.set_cons_zero, List.set_cons_succ, i64_w, i32_w]
         rfl
        refine pure_ (i := 4) (N := some 21) (v := ?_) (a' := ?_) #[true, true, true, false, true, false, false, false, false, false] rfl rfl (any_of HT_.out (by kernel_rfl)) (fun _ _ _ h => h) (Or.inl ⟨by rfl, ?_⟩) ?_ ?_
        rotate_left
        ·intro w'
         go_simp
         with_reducible rfl
        rotate_left
        ·simp only [Act.put, List.setIfInBounds_toArray, List.set_cons_zero, List.set_cons_succ, i64_w, i32_w]
         rfl
        refine pure_ (i := 5) (N := some 22) (v := ?_) (a' := ?_) #[true, true, true, false, true, true, false, false, false, false] rfl rfl (any_of HT_.out (by kernel_rfl)) (fun _ _ _ h => h) (Or.inl ⟨by rfl, ?_⟩) ?_ ?_
        rotate_left
        ·intro w'
         go_simp
         with_reducible rfl
        rotate_left
        ·simp only [Act.put, List.setIfInBounds_toArray, List.set_cons_zero, List.set_cons_succ, i64_w, i32_w]
         rfl
        refine pure_ (i := 6) (N := some 23) (v := ?_) (a' := ?_) #[true, true, true, false, true, true, true, false, false, false] rfl rfl (any_of HT_.out (by kernel_rfl)) (fun _ _ _ h => h) (Or.inl ⟨by rfl, ?_⟩) ?_ ?_
        rotate_left
        ·intro w'
         go_simp
         with_reducible rfl
        rotate_left
        ·simp only [Act.put, List.setIfInBounds_toArray, List.set_cons_zero, List.set_cons_succ, i64_w, i32_w]
         rfl
        refine take_ (i := 3) (N := some 20) (v := ?_) (a' := ?_) #[true, true, true, true, true, true, true, false, false, false] rfl rfl (take_ofW HT_.out HW_.out (by kernel_rfl)) (fun _ _ _ h => h) (Or.inl ⟨by rfl, ?_⟩) hHeld ?_ ?_
        rotate_left
        ·rintro w' ⟨s0, s1, s2, s3, s4, s5⟩
         go_simp
         with_reducible rfl
        rotate_left
        ·simp only [Act.put, List.setIfInBounds_toArray, List.set_cons_zero, List.set_cons_succ, i64_w, i32_w]
         rfl
        refine take_ (i := 7) (N := some 24) (v := ?_) (a' := ?_) #[true, true, true, true, true, true, true, true, false, false] rfl rfl (take_ofW HT_.out HW_.out (by kernel_rfl)) (fun _ _ _ h => h) (Or.inl ⟨by rfl, ?_⟩) hHeld ?_ ?_
        rotate_left
        ·rintro w' ⟨s0, s1, s2, s3, s4, s5⟩
         go_simp
         with_reducible rfl
        rotate_left
        ·simp only [Act.put, List.setIfInBounds_toArray, List.set_cons_zero, List.set_cons_succ, i64_w, i32_w]
         rfl
        refine one_ (i := 8) (N := some 25) #[true, true, true, true, true, true, true, true, true, false] rfl rfl (one_of HT_.out (by kernel_rfl)) (by decide) (fun K hK => ?_)
        refine goes_ Try.func50 (by kernel_rfl) rfl #[.agg #[.int .i64 ((rd_T81 l0 x5_1).f0), .int .i64 ((rd_T81 l0 x5_1).f1), .slice A159_2 ((rd_T81 l0 x5_1).f2).length c159_2], .agg #[.int .i64 ((rd_T81 l1 x5_1).f0), .int .i64 ((rd_T81 l1 x5_1).f1), .slice A160_2 ((rd_T81 l1 x5_1).f2).length c160_2]] (by rfl) rfl rfl (by (try simp only [List.map_toArray, List.map_cons, List.map_nil]); first | done | rfl | (simp only [List.length_drop, List.length_take]; rfl)) ?_
        with_reducible refine (laws_eqWord.calls_g k1 (fun A0 c0 l0 A1 c1 l1 r w hr0 hc0 hr1 hc1 h => ih k1 (by first | omega | (have := HK1.out; omega) | (have := HJ1.out; omega) | (have := HK1.out; have := HJ1.out; omega) | (have := HK2.out; omega) | (have := HK1.out; have := HK2.out; omega)) A0 c0 l0 A1 c1 l1 r w hr0 hc0 hr1 hc1 h) ((rd_T81 l0 x5_1).f0) ((rd_T81 l0 x5_1).f1) _ _ ((rd_T81 l0 x5_1).f2) ((rd_T81 l1 x5_1).f0) ((rd_T81 l1 x5_1).f1) _ _ ((rd_T81 l1 x5_1).f2) true _ ?side1 ?side2 ?side3 ?side4 A7.out).mono ?_
        (case side1 => repeat (first | exact (Kd.C_below HR159_2.out HB.out) | (with_reducible refine Kd.C_alloc ?_ _) | (with_reducible refine Kd.C_drewN ?_ _) | (with_reducible refine Kd.C_drew ?_)))
        (case side2 => exact HC159_2.out)
        (case side3 => repeat (first | exact (Kd.C_below HR160_2.out HB.out) | (with_reducible refine Kd.C_alloc ?_ _) | (with_reducible refine Kd.C_drewN ?_ _) | (with_reducible refine Kd.C_drew ?_)))
        (case side4 => exact HC160_2.out)
        rintro e w10 ⟨rfl, hb⟩
        refine ⟨_, rfl, ?_⟩
        have n0_ := Aside0.mk (below_step (by repeat (first | (with_reducible first | exact HB.out | apply below_alloc | apply pw_below_drewN | apply below_drew1) | exact HB.out)) hb)
        clear HB
        have HB := n0_
        clear n0_
        (try clear hb)
        (try clear hb2)
        (try clear hk)
        (try clear hi)
        refine hK.out _ _ ⟨((HB.out.cell (World.block_lt_of_cell? w _ hw159_0)).trans hw159_0), ((HB.out.cell (World.block_lt_of_cell? w _ hw159_1)).trans hw159_1), ((HB.out.cell (World.block_lt_of_cell? w _ hw159_2)).trans hw159_2), ((HB.out.cell (World.block_lt_of_cell? w _ hw160_0)).trans hw160_0), ((HB.out.cell (World.block_lt_of_cell? w _ hw160_1)).trans hw160_1), ((HB.out.cell (World.block_lt_of_cell? w _ hw160_2)).trans hw160_2)⟩ (fun hHeld => ?_)
        clear hK K
        refine norm_ (a' := ?_) ?_ ?_
        rotate_left
        ·show Act.put _ (some 25) _ = _
         simp only [Act.put, List.setIfInBounds_toArray, List.set_cons_zero, List.set_cons_succ, i64_w, i32_w]
         rfl
        refine pure_ (i := 9) (N := some 26) (v := ?_) (a' := ?_) #[true, true, true, true, true, true, true, true, true, true] rfl rfl (any_of HT_.out (by kernel_rfl)) (fun _ _ _ h => h) (Or.inl ⟨by rfl, ?_⟩) ?_ ?_
        rotate_left
        ·intro w'
         go_simp
         with_reducible rfl
        rotate_left
        ·simp only [Act.put, List.setIfInBounds_toArray, List.set_cons_zero, List.set_cons_succ, i64_w, i32_w]
         rfl
        refine done_ (done_of HT_.out (by kernel_rfl)) ?_
        try go_wp2
        go_roundg k1
        case measure => have := HK1.out; omega
        case rel => exact ⟨(wrap64 (x5_1 + 1)), (by first | rfl | (simp; done) | (simp [*]; done)), H', ⟨by have := HK1.out; omega⟩, ⟨by repeat (first | (with_reducible first | exact HB.out | apply below_alloc | apply pw_below_drewN | apply below_drew1) | exact HB.out)⟩⟩
       ·replace c8 := Bool.eq_false_iff.mpr c8
        subst c8
        have H1 : (some false) = some r := by rw [if_neg (show ¬ (false = true) by decide)] at H; exact H
        clear H
        have H := H1
        clear H1
        obtain rfl := Option.some.inj H
        try go_wp2
        have n0_ := Aside0.mk (below_drew1 HB.out)
        clear HB
        have HB := n0_
        clear n0_
        have p159 : 0 ≤ (x5_1 : Int) := of_decide_eq_true (by first | (with_reducible assumption) | assumption)
        have q159 : x5_1 < (l0.length : Int) := of_decide_eq_true (by first | (with_reducible assumption) | assumption)
        obtain ⟨ad159, A159_2, c159_2, e159, hx159_0, hx159_1, hx159_2, hl159_2, hi159_2⟩ := at_T81 HR0.out x5_1 p159 q159
        have hw159_2 := hx159_2
        have hw159_1 := hx159_1
        have hw159_0 := hx159_0
        cases e159
        replace hx159_0 := (HB.out.cell (World.block_lt_of_cell? w _ hx159_0)).trans hx159_0
        replace hx159_1 := (HB.out.cell (World.block_lt_of_cell? w _ hx159_1)).trans hx159_1
        replace hx159_2 := (HB.out.cell (World.block_lt_of_cell? w _ hx159_2)).trans hx159_2
        have HR159_2 := Aside0.mk hi159_2
        have HC159_2 := Aside0.mk hl159_2
        clear hi159_2 hl159_2
        replace p159 := eq_true p159
        replace q159 := eq_true q159
        have p160 : 0 ≤ (x5_1 : Int) := of_decide_eq_true (by first | (with_reducible assumption) | assumption)
        have q160 : x5_1 < (l1.length : Int) := of_decide_eq_true (by first | (with_reducible assumption) | assumption)
        obtain ⟨ad160, A160_2, c160_2, e160, hx160_0, hx160_1, hx160_2, hl160_2, hi160_2⟩ := at_T81 HR1.out x5_1 p160 q160
        have hw160_2 := hx160_2
        have hw160_1 := hx160_1
        have hw160_0 := hx160_0
        cases e160
        replace hx160_0 := (HB.out.cell (World.block_lt_of_cell? w _ hx160_0)).trans hx160_0
        replace hx160_1 := (HB.out.cell (World.block_lt_of_cell? w _ hx160_1)).trans hx160_1
        replace hx160_2 := (HB.out.cell (World.block_lt_of_cell? w _ hx160_2)).trans hx160_2
        have HR160_2 := Aside0.mk hi160_2
        have HC160_2 := Aside0.mk hl160_2
        clear hi160_2 hl160_2
        replace p160 := eq_true p160
        replace q160 := eq_true q160
        refine start_ (n := 10) (S := fun w' => w'.cell? (ad159.add ((x5_1).toNat * 3)) = some (.int .i64 ((rd_T81 l0 x5_1).f0)) ∧ w'.cell? ⟨(ad159.add ((x5_1).toNat * 3)).block, (ad159.add ((x5_1).toNat * 3)).off + 1, none⟩ = some (.int .i64 ((rd_T81 l0 x5_1).f1)) ∧ w'.cell? ⟨(ad159.add ((x5_1).toNat * 3)).block, (ad159.add ((x5_1).toNat * 3)).off + 2, none⟩ = some (.slice A159_2 ((rd_T81 l0 x5_1).f2).length c159_2) ∧ w'.cell? (ad160.add ((x5_1).toNat * 3)) = some (.int .i64 ((rd_T81 l1 x5_1).f0)) ∧ w'.cell? ⟨(ad160.add ((x5_1).toNat * 3)).block, (ad160.add ((x5_1).toNat * 3)).off + 1, none⟩ = some (.int .i64 ((rd_T81 l1 x5_1).f1)) ∧ w'.cell? ⟨(ad160.add ((x5_1).toNat * 3)).block, (ad160.add ((x5_1).toNat * 3)).off + 2, none⟩ = some (.slice A160_2 ((rd_T81 l1 x5_1).f2).length c160_2)) (ds := []) #[false, false, false, false, false, false, false, false, false, false] (by kernel_rfl) rfl rfl ⟨((HB.out.cell (World.block_lt_of_cell? w _ hw159_0)).trans hw159_0), ((HB.out.cell (World.block_lt_of_cell? w _ hw159_1)).trans hw159_1), ((HB.out.cell (World.block_lt_of_cell? w _ hw159_2)).trans hw159_2), ((HB.out.cell (World.block_lt_of_cell? w _ hw160_0)).trans hw160_0), ((HB.out.cell (World.block_lt_of_cell? w _ hw160_1)).trans hw160_1), ((HB.out.cell (World.block_lt_of_cell? w _ hw160_2)).trans hw160_2)⟩ (fun hHeld => ?_); refine with_tabW laws_eqWordS.tab6 laws_eqWordS.bits6 (fun HT_ HW_ => ?_)
        generalize wr.drew = w11 at HB HR159_2 HR160_2 hx159_0 hx159_1 hx159_2 hx160_0 hx160_1 hx160_2 hHeld ⊢
        refine pure_ (i := 0) (N := some 17) (v := ?_) (a' := ?_) #[true, false, false, false, false, false, false, false, false, false] rfl rfl (any_of HT_.out (by kernel_rfl)) (fun _ _ _ h => h) (Or.inl ⟨by rfl, ?_⟩) ?_ ?_
        rotate_left
        ·intro w'
         go_simp
         with_reducible rfl
        rotate_left
        ·simp only [Act.put, List.setIfInBounds_toArray, List.set_cons_zero, List.set_cons_succ, i64_w, i32_w]
         rfl
        refine pure_ (i := 1) (N := some 18) (v := ?_) (a' := ?_) #[true, true, false, false, false, false, false, false, false, false] rfl rfl (any_of HT_.out (by kernel_rfl)) (fun _ _ _ h => h) (Or.inl ⟨by rfl, ?_⟩) ?_ ?_
        rotate_left
        ·intro w'
         go_simp
         with_reducible rfl
        rotate_left
        ·simp only [Act.put, List.setIfInBounds_toArray, List.set_cons_zero, List.set_cons_succ, i64_w, i32_w]
         rfl
        refine pure_ (i := 2) (N := some 19) (v := ?_) (a' := ?_) #[true, true, true, false, false, false, false, false, false, false] rfl rfl (any_of HT_.out (by kernel_rfl)) (fun _ _ _ h => h) (Or.inl ⟨by rfl, ?_⟩) ?_ ?_
        rotate_left
        ·intro w'
         go_simp
         with_reducible rfl
        rotate_left
        ·simp only [Act.put, List.setIfInBounds_toArray, List.set_cons_zero, List.set_cons_succ, i64_w, i32_w]
         rfl
        refine pure_ (i := 4) (N := some 21) (v := ?_) (a' := ?_) #[true, true, true, false, true, false, false, false, false, false] rfl rfl (any_of HT_.out (by kernel_rfl)) (fun _ _ _ h => h) (Or.inl ⟨by rfl, ?_⟩) ?_ ?_
        rotate_left
        ·intro w'
         go_simp
         with_reducible rfl
        rotate_left
        ·simp only [Act.put, List.setIfInBounds_toArray, List.set_cons_zero, List.set_cons_succ, i64_w, i32_w]
         rfl
        refine pure_ (i := 5) (N := some 22) (v := ?_) (a' := ?_) #[true, true, true, false, true, true, false, false, false, false] rfl rfl (any_of HT_.out (by kernel_rfl)) (fun _ _ _ h => h) (Or.inl ⟨by rfl, ?_⟩) ?_ ?_
        rotate_left
        ·intro w'
         go_simp
         with_reducible rfl
        rotate_left
        ·simp only [Act.put, List.setIfInBounds_toArray, List.set_cons_zero, List.set_cons_succ, i64_w, i32_w]
         rfl
        refine pure_ (i := 6) (N := some 23) (v := ?_) (a' := ?_) #[true, true, true, false, true, true, true, false, false, false] rfl rfl (any_of HT_.out (by kernel_rfl)) (fun _ _ _ h => h) (Or.inl ⟨by rfl, ?_⟩) ?_ ?_
        rotate_left
        ·intro w'
         go_simp
         with_reducible rfl
        rotate_left
        ·simp only [Act.put, List.setIfInBounds_toArray, List.set_cons_zero, List.set_cons_succ, i64_w, i32_w]
         rfl
        refine take_ (i := 3) (N := some 20) (v := ?_) (a' := ?_) #[true, true, true, true, true, true, true, false, false, false] rfl rfl (take_ofW HT_.out HW_.out (by kernel_rfl)) (fun _ _ _ h => h) (Or.inl ⟨by rfl, ?_⟩) hHeld ?_ ?_
        rotate_left
        ·rintro w' ⟨s0, s1, s2, s3, s4, s5⟩
         go_simp
         with_reducible rfl
        rotate_left
        ·simp only [Act.put, List.setIfInBounds_toArray, List.set_cons_zero, List.set_cons_succ, i64_w, i32_w]
         rfl
        refine take_ (i := 7) (N := some 24) (v := ?_) (a' := ?_) #[true, true, true, true, true, true, true, true, false, false] rfl rfl (take_ofW HT_.out HW_.out (by kernel_rfl)) (fun _ _ _ h => h) (Or.inl ⟨by rfl, ?_⟩) hHeld ?_ ?_
        rotate_left
        ·rintro w' ⟨s0, s1, s2, s3, s4, s5⟩
         go_simp
         with_reducible rfl
        rotate_left
        ·simp only [Act.put, List.setIfInBounds_toArray, List.set_cons_zero, List.set_cons_succ, i64_w, i32_w]
         rfl
        refine one_ (i := 8) (N := some 25) #[true, true, true, true, true, true, true, true, true, false] rfl rfl (one_of HT_.out (by kernel_rfl)) (by decide) (fun K hK => ?_)
        refine goes_ Try.func50 (by kernel_rfl) rfl #[.agg #[.int .i64 ((rd_T81 l0 x5_1).f0), .int .i64 ((rd_T81 l0 x5_1).f1), .slice A159_2 ((rd_T81 l0 x5_1).f2).length c159_2], .agg #[.int .i64 ((rd_T81 l1 x5_1).f0), .int .i64 ((rd_T81 l1 x5_1).f1), .slice A160_2 ((rd_T81 l1 x5_1).f2).length c160_2]] (by rfl) rfl rfl (by (try simp only [List.map_toArray, List.map_cons, List.map_nil]); first | done | rfl | (simp only [List.length_drop, List.length_take]; rfl)) ?_
        with_reducible refine (laws_eqWord.calls_g k1 (fun A0 c0 l0 A1 c1 l1 r w hr0 hc0 hr1 hc1 h => ih k1 (by first | omega | (have := HK1.out; omega) | (have := HJ1.out; omega) | (have := HK1.out; have := HJ1.out; omega) | (have := HK2.out; omega) | (have := HK1.out; have := HK2.out; omega)) A0 c0 l0 A1 c1 l1 r w hr0 hc0 hr1 hc1 h) ((rd_T81 l0 x5_1).f0) ((rd_T81 l0 x5_1).f1) _ _ ((rd_T81 l0 x5_1).f2) ((rd_T81 l1 x5_1).f0) ((rd_T81 l1 x5_1).f1) _ _ ((rd_T81 l1 x5_1).f2) false _ ?side1 ?side2 ?side3 ?side4 A7.out).mono ?_
        (case side1 => repeat (first | exact (Kd.C_below HR159_2.out HB.out) | (with_reducible refine Kd.C_alloc ?_ _) | (with_reducible refine Kd.C_drewN ?_ _) | (with_reducible refine Kd.C_drew ?_)))
        (case side2 => exact HC159_2.out)
        (case side3 => repeat (first | exact (Kd.C_below HR160_2.out HB.out) | (with_reducible refine Kd.C_alloc ?_ _) | (with_reducible refine Kd.C_drewN ?_ _) | (with_reducible refine Kd.C_drew ?_)))
        (case side4 => exact HC160_2.out)
        rintro e w12 ⟨rfl, hb⟩
        refine ⟨_, rfl, ?_⟩
        have n0_ := Aside0.mk (below_step (by repeat (first | (with_reducible first | exact HB.out | apply below_alloc | apply pw_below_drewN | apply below_drew1) | exact HB.out)) hb)
        clear HB
        have HB := n0_
        clear n0_
        (try clear hb)
        (try clear hb2)
        (try clear hk)
        (try clear hi)
        refine hK.out _ _ ⟨((HB.out.cell (World.block_lt_of_cell? w _ hw159_0)).trans hw159_0), ((HB.out.cell (World.block_lt_of_cell? w _ hw159_1)).trans hw159_1), ((HB.out.cell (World.block_lt_of_cell? w _ hw159_2)).trans hw159_2), ((HB.out.cell (World.block_lt_of_cell? w _ hw160_0)).trans hw160_0), ((HB.out.cell (World.block_lt_of_cell? w _ hw160_1)).trans hw160_1), ((HB.out.cell (World.block_lt_of_cell? w _ hw160_2)).trans hw160_2)⟩ (fun hHeld => ?_)
        clear hK K
        refine norm_ (a' := ?_) ?_ ?_
        rotate_left
        ·show Act.put _ (some 25) _ = _
         simp only [Act.put, List.setIfInBounds_toArray, List.set_cons_zero, List.set_cons_succ, i64_w, i32_w]
         rfl
        refine pure_ (i := 9) (N := some 26) (v := ?_) (a' := ?_) #[true, true, true, true, true, true, true, true, true, true] rfl rfl (any_of HT_.out (by kernel_rfl)) (fun _ _ _ h => h) (Or.inl ⟨by rfl, ?_⟩) ?_ ?_
        rotate_left
        ·intro w'
         go_simp
         with_reducible rfl
        rotate_left
        ·simp only [Act.put, List.setIfInBounds_toArray, List.set_cons_zero, List.set_cons_succ, i64_w, i32_w]
         rfl
        refine done_ (done_of HT_.out (by kernel_rfl)) ?_
        try go_wp2
        go_ret
        exact ⟨by first | rfl | (simp [errW_none, errW_some] <;> rfl) | (simp [*, errW_none, errW_some] <;> rfl), by repeat (first | (with_reducible first | exact HB.out | apply below_alloc | apply pw_below_drewN | apply below_drew1) | exact HB.out)⟩
      ·rw [if_neg c6] at H
       exact absurd H (by simp)
     ·rw [if_neg c5] at H
      exact absurd H (by simp)
    ·rw [if_neg c4] at H
     have c4b0 : decide (x5_1 < (l0.length : Int)) = false := decide_eq_false c4
     clear c4
     obtain rfl := Option.some.inj H
     go_wp2
     go_ret
     exact ⟨by first | rfl | (simp [errW_none, errW_some] <;> rfl) | (simp [*, errW_none, errW_some] <;> rfl), by repeat (first | (with_reducible first | exact HB.out | apply below_alloc | apply pw_below_drewN | apply below_drew1) | exact HB.out)⟩
 ·rw [if_neg c3] at H
  have c3b0 : ((l0.length : Int) == (l1.length : Int)) = false := beq_eq_false_iff_ne.mpr c3
  have c3b1 : ((l0.length : Int) != (l1.length : Int)) = true := bne_iff_ne.mpr c3
  have c3b2 : (l0.length == l1.length) = false := by first | simpa using c3 | (simp at c3 ⊢; omega)
  obtain rfl := Option.some.inj H
  go_enter Try.func106, Try.ntmps106
  go_wp2
  go_ret
  exact ⟨by first | rfl | (simp [errW_none, errW_some] <;> rfl) | (simp [*, errW_none, errW_some] <;> rfl), by repeat (first | (with_reducible first | exact HB.out | apply below_alloc | apply pw_below_drewN | apply below_drew1) | exact HB.out)⟩
def laws_eqWord.f (k : Nat) (a0_0 : Int) (a0_1 : Int) (l0_2 : List (S81)) (a1_0 : Int) (a1_1 : Int) (l1_2 : List (S81)) : Option (Bool) := laws_eqWord.g (laws_eqWordS.f k) a0_0 a0_1 l0_2 a1_0 a1_1 l1_2
theorem laws_eqWord.calls (k : Nat) (a0_0 : Int) (a0_1 : Int) (A0_2 : Option Addr) (c0_2 : Nat) (l0_2 : List (S81)) (a1_0 : Int) (a1_1 : Int) (A1_2 : Option Addr) (c1_2 : Nat) (l1_2 : List (S81)) (r : Bool) (w : World) (hr0_2 : Kd.C k81 w A0_2 l0_2.length l0_2) (hc0_2 : l0_2.length ≤ c0_2) (hr1_2 : Kd.C k81 w A1_2 l1_2.length l1_2) (hc1_2 : l1_2.length ≤ c1_2) (h : laws_eqWord.f k a0_0 a0_1 l0_2 a1_0 a1_1 l1_2 = some r) :
  Calls Try.prog 50 #[.agg #[.int .i64 a0_0, .int .i64 a0_1, .slice A0_2 l0_2.length c0_2], .agg #[.int .i64 a1_0, .int .i64 a1_1, .slice A1_2 l1_2.length c1_2]] w fun e w' => e = .returned (.bool r) ∧ Below w.heap.size w w' :=
 laws_eqWord.calls_g k (laws_eqWordS.calls k) a0_0 a0_1 A0_2 c0_2 l0_2 a1_0 a1_1 A1_2 c1_2 l1_2 r w hr0_2 hc0_2 hr1_2 hc1_2 h
set_option maxHeartbeats 1600000 in
set_option maxRecDepth 100000 in
theorem markEx_anyW (xs : List S81) (P : Nat → Prop) (A : Option Addr) (n c : Nat) (hn : xs.length = n) (b0 b1 a : Int) (w0 w : World) (hB : Below w0.heap.size w0 w) (hP : ∀ k, P k → w0.heap.size ≤ k) (hO : OTW w P (.slice A n c) xs) (ha0 : 0 ≤ a) (ha1 : a + 2 * nLW xs ≤ 2305843009213693952) :
  Calls Try.prog 51 #[.agg #[.int .i64 b0, .int .i64 b1, .slice A n c], .int .i64 a] w fun e w' => e = .returned (.int .i64 (a + 2 * nLW xs)) ∧ OTW w' P (.slice A n c) (mkLW xs a) ∧ Below w0.heap.size w0 w' ∧ Kept w w' (fun k => P k ∧ k < w.heap.size) := by
 have hu31 := Try.underlying81
 have HO := Aside0.mk (show OTW w (fun k => P k ∧ k < w.heap.size) (.slice A n c) xs from OTW.bound hO)
 have HB := Aside0.mk hB
 have HP := Aside0.mk hP
 clear hO hB hP
 go_enter Try.func51, Try.ntmps51
 go_upto_region 1 with fail
 have hb1 := (below_alloc (Below.refl w.heap.size w) (.cells #[.int .i64 b0, .int .i64 b1, .slice A n c] 81))
 have hg1 := blk_new w (.cells #[.int .i64 b0, .int .i64 b1, .slice A n c] 81)
 generalize w.alloc (.cells #[.int .i64 b0, .int .i64 b1, .slice A n c] 81) = w1 at hb1 hg1 ⊢
 have hx2 := (blk_cell hg1 2).trans (show _ = some (.slice A n c) from rfl)
 have hcall := markExS_anyW (SizeOf.sizeOf xs + 1) xs (Nat.lt_succ_self _) (fun k => P k ∧ k < w.heap.size) (.slice A n c) a w0 w1 (HB.out.trans (hb1.mono HB.out.size)) (fun k hk => HP.out k hk.1) (HO.out.move (fun k _ hlt => hb1.block k hlt)) ha0 ha1
 have HB1 := Aside0.mk hb1
 clear hg1 hb1
 go_wp2_with (go_at_call 107; refine hcall.mono ?_; rintro e w3 ⟨rfl, hO3, hB3, hK3⟩; clear hcall)
 go_ret
 refine ⟨rfl, hO3.mono (fun k hk => hk.1), hB3, ?_⟩
 exact (Kept.of_below HB1.out _).then_ hK3 (fun k hk => .inl hk)
mutual
def laws_heldExS.l0 : Nat → List (S31) → Int → Int → Option (Int)
 | 0, _, _, _ => none
 | k + 1, x0, x1, x5 => if x5 < (x0.length : Int) then (if 0 ≤ x5 then (if ((rd_T31 x0 x5).f0) = x1 then (if ((rd_T31 x0 x5).f1) = (wrap64 (x1 + 1)) then ((laws_heldExS.f k ((rd_T31 x0 x5).f2) (wrap64 ((wrap64 (x1 + 1)) + 1))).bind fun t165 => (if t165 < 0 then (some (-1)) else (laws_heldExS.l0 k x0 t165 (wrap64 (x5 + 1))))) else (some (-1))) else (some (-1))) else (none)) else (some x1)
def laws_heldExS.f : Nat → List (S31) → Int → Option (Int)
 | 0, _, _ => none
 | k + 1, l0, a1 => laws_heldExS.l0 k l0 a1 0
end
set_option maxHeartbeats 8000000 in
set_option maxRecDepth 100000 in
theorem laws_heldExS.calls (k : Nat) : ∀ (A0 : Option Addr) (c0 : Nat) (l0 : List (S31)) (a1 : Int) (r : Int) (w : World) (hr0 : Kd.C k31 w A0 l0.length l0) (hc0 : l0.length ≤ c0) (h : laws_heldExS.f k l0 a1 = some r),
  Calls Try.prog 52 #[.slice A0 l0.length c0, .int .i64 a1] w fun e w' => e = .returned (.int .i64 r) ∧ Drawn0 w w' := by
 induction k using Nat.strongRecOn with
 | _ k ih =>
 intro A0 c0 l0 a1 r w hr0 hc0 h
 cases k with
 | zero => exact absurd h (by simp [laws_heldExS.f])
 | succ k =>
 simp only [laws_heldExS.f] at h
 have HR0 := Aside0.mk hr0
 have HC0 := Aside0.mk hc0
 clear hr0 hc0
 have H : (laws_heldExS.l0 k l0 a1 0) = some r := h
 clear h
 have H' := Aside0.mk H
 clear H
 go_enter Try.func52, Try.ntmps52
 go_wp2
 go_loopg [1, 5] k (fun kq v1 v5 w' => ∃ (x1_1 : Int) (x5_1 : Int), v1 = .int .i64 x1_1 ∧ v5 = .int .i64 x5_1 ∧ Aside0 (laws_heldExS.l0 kq l0 x1_1 x5_1 = some r) ∧ Aside0 (kq ≤ k) ∧ Drawn0 w w')
 case atStart => exact ⟨(a1), (0), (by first | rfl | (simp; done) | (simp [*]; done)), (by first | rfl | (simp; done) | (simp [*]; done)), H', ⟨Nat.le_refl _⟩, by repeat (first | exact Drawn0.refl _ | apply Drawn0.step)⟩
 case round =>
  clear H'
  try clear p2
  obtain ⟨x1_1, x5_1, rfl, rfl, HA, HK1, ⟨m1, rfl⟩⟩ := hrel
  cases gk with
  | zero => exact absurd HA.out (by simp [laws_heldExS.l0])
  | succ k1 =>
   have H := HA.out
   clear HA
   simp only [laws_heldExS.l0] at H
   by_cases c3 : x5_1 < (l0.length : Int)
   ·rw [if_pos c3] at H
    have c3b0 : decide (x5_1 < (l0.length : Int)) = true := decide_eq_true c3
    clear c3
    by_cases c4 : 0 ≤ x5_1
    ·rw [if_pos c4] at H
     have c4b0 : decide (0 ≤ x5_1) = true := decide_eq_true c4
     clear c4
     by_cases c5 : ((rd_T31 l0 x5_1).f0) = x1_1
     ·rw [if_pos c5] at H
      have c5b0 : (((rd_T31 l0 x5_1).f0) == x1_1) = true := beq_iff_eq.mpr c5
      have c5b1 : (((rd_T31 l0 x5_1).f0) != x1_1) = false := bne_eq_false_iff_eq.mpr c5
      clear c5
      by_cases c6 : ((rd_T31 l0 x5_1).f1) = (wrap64 (x1_1 + 1))
      ·rw [if_pos c6] at H
       have c6b0 : (((rd_T31 l0 x5_1).f1) == (wrap64 (x1_1 + 1))) = true := beq_iff_eq.mpr c6
       have c6b1 : (((rd_T31 l0 x5_1).f1) != (wrap64 (x1_1 + 1))) = false := bne_eq_false_iff_eq.mpr c6
       clear c6
       replace H := Option.bind_eq_some_iff.mp H
       obtain ⟨t165, A70, H⟩ := H
       replace H : (if t165 < 0 then (some (-1)) else (laws_heldExS.l0 k1 l0 t165 (wrap64 (x5_1 + 1)))) = some r := H
       have A7 := Aside0.mk A70
       clear A70
       by_cases c8 : t165 < 0
       ·rw [if_pos c8] at H
        have c8b0 : decide (t165 < 0) = true := decide_eq_true c8
        clear c8
        obtain rfl := Option.some.inj H
        have p162 : 0 ≤ (x5_1 : Int) := of_decide_eq_true (by first | (with_reducible assumption) | assumption)
        have q162 : x5_1 < (l0.length : Int) := of_decide_eq_true (by first | (with_reducible assumption) | assumption)
        obtain ⟨ad162, A162_2, c162_2, e162, hx162_0, hx162_1, hx162_2, hl162_2, hi162_2⟩ := at_T31 HR0.out x5_1 p162 q162
        cases e162
        have HR162_2 := Aside0.mk hi162_2
        have HC162_2 := Aside0.mk hl162_2
        clear hi162_2 hl162_2
        replace p162 := eq_true p162
        replace q162 := eq_true q162
        have p163 : 0 ≤ (x5_1 : Int) := of_decide_eq_true (by first | (with_reducible assumption) | assumption)
        have q163 : x5_1 < (l0.length : Int) := of_decide_eq_true (by first | (with_reducible assumption) | assumption)
        obtain ⟨ad163, A163_2, c163_2, e163, hx163_0, hx163_1, hx163_2, hl163_2, hi163_2⟩ := at_T31 HR0.out x5_1 p163 q163
        obtain rfl : ad162 = ad163 := (by injection e163)
        have HR163_2 := Aside0.mk hi163_2
        have HC163_2 := Aside0.mk hl163_2
        clear hi163_2 hl163_2
        replace p163 := eq_true p163
        replace q163 := eq_true q163
        have ea_ := Option.some.inj (hx162_2.symm.trans hx163_2)
        injection ea_ with ea_ en_ ec_
        subst ea_
        subst ec_
        clear en_
        have p164 : 0 ≤ (x5_1 : Int) := of_decide_eq_true (by first | (with_reducible assumption) | assumption)
        have q164 : x5_1 < (l0.length : Int) := of_decide_eq_true (by first | (with_reducible assumption) | assumption)
        obtain ⟨ad164, A164_2, c164_2, e164, hx164_0, hx164_1, hx164_2, hl164_2, hi164_2⟩ := at_T31 HR0.out x5_1 p164 q164
        obtain rfl : ad162 = ad164 := (by injection e164)
        have HR164_2 := Aside0.mk hi164_2
        have HC164_2 := Aside0.mk hl164_2
        clear hi164_2 hl164_2
        replace p164 := eq_true p164
        replace q164 := eq_true q164
        have ea_ := Option.some.inj (hx162_2.symm.trans hx164_2)
        injection ea_ with ea_ en_ ec_
        subst ea_
        subst ec_
        clear en_
        go_wp2_with (first | ((with_reducible refine gate_callee (f := 52) rfl ?_); refine goesL_ (some 36) rfl rfl Try.func52 (by kernel_rfl) rfl #[.slice A162_2 ((rd_T31 l0 x5_1).f2).length c162_2, .int .i64 (wrap64 ((wrap64 (x1_1 + 1)) + 1))] rfl (by (try simp only [List.map_toArray, List.map_cons, List.map_nil]); first | done | rfl | (simp only [List.length_drop, List.length_take]; rfl)) ?_; (with_reducible refine (ih k1 (by have := HK1.out; omega) _ _ ((rd_T31 l0 x5_1).f2) (wrap64 ((wrap64 (x1_1 + 1)) + 1)) t165 _ ?side1 ?side2 A7.out).mono ?_); (case side1 => repeat (first | exact HR164_2.out | (with_reducible refine Kd.C_alloc ?_ _) | (with_reducible refine Kd.C_drewN ?_ _) | (with_reducible refine Kd.C_drew ?_))); (case side2 => exact HC164_2.out); rintro e w' ⟨rfl, ⟨nd, rfl⟩⟩; refine ⟨_, rfl, ?_⟩))
        go_ret
        exact ⟨by first | rfl | (simp; done) | (simp [*]; done), by repeat (first | exact Drawn0.refl _ | apply Drawn0.step)⟩
       ·rw [if_neg c8] at H
        have c8b0 : decide (t165 < 0) = false := decide_eq_false c8
        clear c8
        have H' := Aside0.mk H
        clear H
        have p162 : 0 ≤ (x5_1 : Int) := of_decide_eq_true (by first | (with_reducible assumption) | assumption)
        have q162 : x5_1 < (l0.length : Int) := of_decide_eq_true (by first | (with_reducible assumption) | assumption)
        obtain ⟨ad162, A162_2, c162_2, e162, hx162_0, hx162_1, hx162_2, hl162_2, hi162_2⟩ := at_T31 HR0.out x5_1 p162 q162
        cases e162
        have HR162_2 := Aside0.mk hi162_2
        have HC162_2 := Aside0.mk hl162_2
        clear hi162_2 hl162_2
        replace p162 := eq_true p162
        replace q162 := eq_true q162
        have p163 : 0 ≤ (x5_1 : Int) := of_decide_eq_true (by first | (with_reducible assumption) | assumption)
        have q163 : x5_1 < (l0.length : Int) := of_decide_eq_true (by first | (with_reducible assumption) | assumption)
        obtain ⟨ad163, A163_2, c163_2, e163, hx163_0, hx163_1, hx163_2, hl163_2, hi163_2⟩ := at_T31 HR0.out x5_1 p163 q163
        obtain rfl : ad162 = ad163 := (by injection e163)
        have HR163_2 := Aside0.mk hi163_2
        have HC163_2 := Aside0.mk hl163_2
        clear hi163_2 hl163_2
        replace p163 := eq_true p163
        replace q163 := eq_true q163
        have ea_ := Option.some.inj (hx162_2.symm.trans hx163_2)
        injection ea_ with ea_ en_ ec_
        subst ea_
        subst ec_
        clear en_
        have p164 : 0 ≤ (x5_1 : Int) := of_decide_eq_true (by first | (with_reducible assumption) | assumption)
        have q164 : x5_1 < (l0.length : Int) := of_decide_eq_true (by first | (with_reducible assumption) | assumption)
        obtain ⟨ad164, A164_2, c164_2, e164, hx164_0, hx164_1, hx164_2, hl164_2, hi164_2⟩ := at_T31 HR0.out x5_1 p164 q164
        obtain rfl : ad162 = ad164 := (by injection e164)
        have HR164_2 := Aside0.mk hi164_2
        have HC164_2 := Aside0.mk hl164_2
        clear hi164_2 hl164_2
        replace p164 := eq_true p164
        replace q164 := eq_true q164
        have ea_ := Option.some.inj (hx162_2.symm.trans hx164_2)
        injection ea_ with ea_ en_ ec_
        subst ea_
        subst ec_
        clear en_
        go_wp2_with (first | ((with_reducible refine gate_callee (f := 52) rfl ?_); refine goesL_ (some 36) rfl rfl Try.func52 (by kernel_rfl) rfl #[.slice A162_2 ((rd_T31 l0 x5_1).f2).length c162_2, .int .i64 (wrap64 ((wrap64 (x1_1 + 1)) + 1))] rfl (by (try simp only [List.map_toArray, List.map_cons, List.map_nil]); first | done | rfl | (simp only [List.length_drop, List.length_take]; rfl)) ?_; (with_reducible refine (ih k1 (by have := HK1.out; omega) _ _ ((rd_T31 l0 x5_1).f2) (wrap64 ((wrap64 (x1_1 + 1)) + 1)) t165 _ ?side1 ?side2 A7.out).mono ?_); (case side1 => repeat (first | exact HR164_2.out | (with_reducible refine Kd.C_alloc ?_ _) | (with_reducible refine Kd.C_drewN ?_ _) | (with_reducible refine Kd.C_drew ?_))); (case side2 => exact HC164_2.out); rintro e w' ⟨rfl, ⟨nd, rfl⟩⟩; refine ⟨_, rfl, ?_⟩))
        go_roundg k1
        case measure => have := HK1.out; omega
        case rel => exact ⟨(t165), (wrap64 (x5_1 + 1)), (by first | rfl | (simp; done) | (simp [*]; done)), (by first | rfl | (simp; done) | (simp [*]; done)), H', ⟨by have := HK1.out; omega⟩, by repeat (first | exact Drawn0.refl _ | apply Drawn0.step)⟩
      ·rw [if_neg c6] at H
       have c6b0 : (((rd_T31 l0 x5_1).f1) == (wrap64 (x1_1 + 1))) = false := beq_eq_false_iff_ne.mpr c6
       have c6b1 : (((rd_T31 l0 x5_1).f1) != (wrap64 (x1_1 + 1))) = true := bne_iff_ne.mpr c6
       obtain rfl := Option.some.inj H
       have p162 : 0 ≤ (x5_1 : Int) := of_decide_eq_true (by first | (with_reducible assumption) | assumption)
       have q162 : x5_1 < (l0.length : Int) := of_decide_eq_true (by first | (with_reducible assumption) | assumption)
       obtain ⟨ad162, A162_2, c162_2, e162, hx162_0, hx162_1, hx162_2, hl162_2, hi162_2⟩ := at_T31 HR0.out x5_1 p162 q162
       cases e162
       have HR162_2 := Aside0.mk hi162_2
       have HC162_2 := Aside0.mk hl162_2
       clear hi162_2 hl162_2
       replace p162 := eq_true p162
       replace q162 := eq_true q162
       have p163 : 0 ≤ (x5_1 : Int) := of_decide_eq_true (by first | (with_reducible assumption) | assumption)
       have q163 : x5_1 < (l0.length : Int) := of_decide_eq_true (by first | (with_reducible assumption) | assumption)
       obtain ⟨ad163, A163_2, c163_2, e163, hx163_0, hx163_1, hx163_2, hl163_2, hi163_2⟩ := at_T31 HR0.out x5_1 p163 q163
       obtain rfl : ad162 = ad163 := (by injection e163)
       have HR163_2 := Aside0.mk hi163_2
       have HC163_2 := Aside0.mk hl163_2
       clear hi163_2 hl163_2
       replace p163 := eq_true p163
       replace q163 := eq_true q163
       have ea_ := Option.some.inj (hx162_2.symm.trans hx163_2)
       injection ea_ with ea_ en_ ec_
       subst ea_
       subst ec_
       clear en_
       go_wp2
       go_ret
       exact ⟨by first | rfl | (simp; done) | (simp [*]; done), by repeat (first | exact Drawn0.refl _ | apply Drawn0.step)⟩
     ·rw [if_neg c5] at H
      have c5b0 : (((rd_T31 l0 x5_1).f0) == x1_1) = false := beq_eq_false_iff_ne.mpr c5
      have c5b1 : (((rd_T31 l0 x5_1).f0) != x1_1) = true := bne_iff_ne.mpr c5
      obtain rfl := Option.some.inj H
      have p162 : 0 ≤ (x5_1 : Int) := of_decide_eq_true (by first | (with_reducible assumption) | assumption)
      have q162 : x5_1 < (l0.length : Int) := of_decide_eq_true (by first | (with_reducible assumption) | assumption)
      obtain ⟨ad162, A162_2, c162_2, e162, hx162_0, hx162_1, hx162_2, hl162_2, hi162_2⟩ := at_T31 HR0.out x5_1 p162 q162
      cases e162
      have HR162_2 := Aside0.mk hi162_2
      have HC162_2 := Aside0.mk hl162_2
      clear hi162_2 hl162_2
      replace p162 := eq_true p162
      replace q162 := eq_true q162
      go_wp2
      go_ret
      exact ⟨by first | rfl | (simp; done) | (simp [*]; done), by repeat (first | exact Drawn0.refl _ | apply Drawn0.step)⟩
    ·rw [if_neg c4] at H
     exact absurd H (by simp)
   ·rw [if_neg c3] at H
    have c3b0 : decide (x5_1 < (l0.length : Int)) = false := decide_eq_false c3
    clear c3
    obtain rfl := Option.some.inj H
    go_wp2
    go_ret
    exact ⟨by first | rfl | (simp; done) | (simp [*]; done), by repeat (first | exact Drawn0.refl _ | apply Drawn0.step)⟩
end Go.Proofs.Ytcmkkoggdcjceaa.PFnExactWordBits
end
section
namespace Go.Proofs.Ytcmkkoggdcjceaa.PFnExactWordBits
open Go.RowKit Go.Proofs.YtcmkkoggdcjceaaW.PrintWords Go.Proofs.YtcmkkoggdcjceaaW.PrintLast Go.Proofs.YtcmkkoggdcjceaaW.PrintMore
attribute [local go_sem] max2_int min2_int max_two min_two max_three min_three max_four min_four   -- for this text's walks alone
set_option linter.unusedVariables false
set_option linter.unusedSimpArgs false
def wt9_10 : Bool × List (List Nat × List Nat) := (true, [([], []), ([], []), ([1], [1]), ([0, 2, 2], [0, 2]), ([3], [3])])
theorem wt9_10_tab : rtab .any (opsOf Try.f9 10) = wt9_10 := by kernel_rfl
section
variable {P : World → Prop} {V V2 : World} {ok S : Nat → Prop}
theorem gf_below (h : Foot P V ok) (hb : Below V.heap.size V V2) : Foot P V2 ok := h.step (fun k _ hlt => hb.block k hlt)
theorem gf_kept (h : Foot P V ok) (hk : Kept V V2 S) (hne : ∀ k, ok k → ¬ S k) : Foot P V2 ok := h.step (fun k hk' hlt => hk.2 k hlt (hne k hk'))
theorem gf_blk {g : Nat} {o : Obj} (h : V.heap[g]? = some o) (hok : ok g) : Foot (fun V => V.heap[g]? = some o) V ok := fun W' hW => (hW g hok (blk_lt h)).trans h
theorem gf_F {A : Option Addr} {n : Nat} {xs : List S31} (h : Kd.F k31 V ok A n xs) : Foot (fun V => Kd.C k31 V A n xs) V ok := h
theorem gf_OT {v : Value} {xs : List S31} (h : OT V ok v xs) : Foot (fun V => OT V ok v xs) V ok := fun W' hW => h.move hW
theorem gf_OTW {v : Value} {xs : List S81} (h : OTW V ok v xs) : Foot (fun V => OTW V ok v xs) V ok := fun W' hW => h.move hW
theorem gOT_C {A : Option Addr} {n c : Nat} {xs : List S31} (h : OT V ok (.slice A n c) xs) : xs.length ≤ c ∧ Kd.C k31 V A xs.length xs := by
 obtain ⟨A', c', e, h1, h2⟩ := h.reads
 cases e
 exact ⟨h1, h2⟩
theorem gOTW_C {A : Option Addr} {n c : Nat} {xs : List S81} (h : OTW V ok (.slice A n c) xs) : xs.length ≤ c ∧ Kd.C k81 V A xs.length xs := by
 obtain ⟨A', c', e, h1, h2⟩ := h.reads
 cases e
 exact ⟨h1, h2⟩
end
theorem box81 {W wbitsF : World} {gb : Nat} {a b v : Value} (hg : gb = W.heap.size) (hbox : wbitsF.heap[gb]? = some (.cells #[.int .i64 0, .int .i64 0, .slice none 0 0] 81 (0, 0))) (hb : Below W.heap.size W wbitsF) : (((wbitsF.setCell ⟨gb, 0, none⟩ a).setCell ⟨gb, 1, none⟩ b).setCell ⟨gb, 2, none⟩ v).heap[gb]? = some (.cells #[a, b, v] 81 (0, 0)) ∧ Below W.heap.size W (((wbitsF.setCell ⟨gb, 0, none⟩ a).setCell ⟨gb, 1, none⟩ b).setCell ⟨gb, 2, none⟩ v) :=
 ⟨blk_put (cs := #[a, b, .slice none 0 0]) (blk_put (cs := #[a, .int .i64 0, .slice none 0 0]) (blk_put hbox 0 a rfl) 1 b rfl) 2 v rfl, below_set (below_set (below_set hb (Nat.le_of_eq hg.symm)) (Nat.le_of_eq hg.symm)) (Nat.le_of_eq hg.symm)⟩
theorem heldS_at (kf : Nat) (A : Option Addr) (n c : Nat) (xs : List S31) (hn : xs.length = n) (a r : Int) (w : World) {P : Nat → Prop} (hO : OT w P (.slice A n c) xs) (h : laws_heldExS.f kf xs a = some r) : Calls Try.prog 52 #[.slice A n c, .int .i64 a] w fun e w' => e = .returned (.int .i64 r) ∧ Below w.heap.size w w' := by
 subst hn
 exact (laws_heldExS.calls kf A c xs a r w (gOT_C hO).2 (gOT_C hO).1 h).mono (fun e w' ⟨h1, h2⟩ => ⟨h1, h2.below⟩)
def VP.w81 (x0 x1 : Int) (x2 : List S81) : VP := ⟨fun B W v => ∃ A c, v = .agg #[.int .i64 x0, .int .i64 x1, .slice A x2.length c] ∧ x2.length ≤ c ∧ Kd.C k81 W A x2.length x2, fun B B' W W' v hb h1 h2 h => by
 obtain ⟨A, c, e, hl, hC⟩ := h
 exact ⟨A, c, e, hl, Kd.C_below hC hb⟩⟩
section
variable {ops : Array Oper} {Q : Exit → Act → World → Prop} {o : Oper} {b : Act} {W : World} {K : Act → World → Prop} {s s1 s2 : Tmp}
theorem ld75_step {ad : Addr} {f0 f1 : Int} {v2 : Value} (hg : o.guard = none) (ho : o.op = .load 75 (.tmp s)) (hu : b.eval (.tmp s) = .pointer (some ad)) (h0 : W.cell? ad = some (.int .i64 f0)) (h1 : W.cell? ⟨ad.block, ad.off + 1, none⟩ = some (.int .i64 f1)) (h2 : W.cell? ⟨ad.block, ad.off + 2, none⟩ = some v2) (hK : K (b.put o.dst (.agg #[.int .i64 f0, .int .i64 f1, v2])) W) :
  if Region.wanted o (yielded ops b.tmps) = true then Oper.wp Try.prog o b W K Q else K (b.put o.dst undef) W := by
 refine value_ (by unfold Region.wanted; rw [hg]) rfl (v := .agg #[.int .i64 f0, .int .i64 f1, v2]) (w1 := W) ?_ hK
 have hu75 := Try.underlying75
 unfold execOp
 rw [ho]
 simp only [hu]
 go_simp
theorem tw_step {kf : Nat} {a0 a1 x0 x1 : Int} {A1 : Option Addr} {c1 : Nat} {l2 : List S75} {x2 : List S81} {ts : Array TypeId} {N : Tmp} (h1 : b.eval (.tmp s) = .agg #[.int .i64 a0, .int .i64 a1, .slice A1 l2.length c1]) (hd : o.dst = some N) (hg : o.guard = none) (ho : o.op = .call { callee := .value (.func 48), args := #[.tmp s], argTypes := ts }) (hC : Kd.C k75 W A1 l2.length l2) (hc : l2.length ≤ c1) (h : laws_toWord.f kf a0 a1 l2 = some (x0, x1, x2))
  (hK : ∀ v W', (∃ A c, v = .agg #[.int .i64 x0, .int .i64 x1, .slice A x2.length c] ∧ x2.length ≤ c ∧ Kd.C k81 W' A x2.length x2) → Below W.heap.size W W' → K (b.put o.dst v) W') :
  if Region.wanted o (yielded ops b.tmps) = true then Oper.wp Try.prog o b W K Q else K (b.put o.dst undef) W := by
 refine goes_ Try.func48 (by kernel_rfl) rfl #[.agg #[.int .i64 a0, .int .i64 a1, .slice A1 l2.length c1]] (by unfold Region.wanted; rw [hg]) rfl ho (by simp only [List.map_toArray, List.map_cons, List.map_nil, h1]) ?_
 refine (toSW.calls kf a0 a1 A1 c1 l2 x0 x1 x2 W hC hc h).mono ?_
 rintro e w' ⟨v, rfl, hS, hb⟩
 obtain ⟨A, c, ev, hl, hC2⟩ := Kd.S_reads hS
 subst ev
 exact ⟨_, rfl, hK _ _ ⟨A, c, rfl, hl, kS81_C hC2⟩ hb⟩
theorem ew_step {kf : Nat} {x0 x1 : Int} {A5 : Option Addr} {c5 : Nat} {x2 : List S81} {ts : Array TypeId} {N : Tmp} (h1 : b.eval (.tmp s) = .agg #[.int .i64 x0, .int .i64 x1, .slice A5 x2.length c5]) (hd : o.dst = some N) (hg : o.guard = none) (ho : o.op = .call { callee := .value (.func 50), args := #[.tmp s, .tmp s2], argTypes := ts }) (hC : Kd.C k81 W A5 x2.length x2) (hc : x2.length ≤ c5) (h2 : ∃ A c, b.eval (.tmp s2) = .agg #[.int .i64 x0, .int .i64 x1, .slice A x2.length c] ∧ x2.length ≤ c ∧ Kd.C k81 W A x2.length x2) (h : laws_eqWord.f kf x0 x1 x2 x0 x1 x2 = some true)
  (hK : ∀ W', Below W.heap.size W W' → K (b.put o.dst (.bool true)) W') :
  if Region.wanted o (yielded ops b.tmps) = true then Oper.wp Try.prog o b W K Q else K (b.put o.dst undef) W := by
 obtain ⟨A, c, e2, hl, hC2⟩ := h2
 refine goes_ Try.func50 (by kernel_rfl) rfl #[.agg #[.int .i64 x0, .int .i64 x1, .slice A5 x2.length c5], .agg #[.int .i64 x0, .int .i64 x1, .slice A x2.length c]] (by unfold Region.wanted; rw [hg]) rfl ho (by simp only [List.map_toArray, List.map_cons, List.map_nil, h1, e2]) ?_
 refine (laws_eqWord.calls kf x0 x1 A5 c5 x2 x0 x1 A c x2 true W hC hc hC2 hl h).mono ?_
 rintro e w' ⟨rfl, hb⟩
 exact ⟨_, rfl, hK _ hb⟩
end
open Classical in
noncomputable def laws_FnExactWordBits.f (kf : Nat) (a0 a1 : Int) (l2 : List S75) (n : Int) : Option Bool :=
 (laws_szWord.f kf a0 a1 l2 1048576).bind fun t => if t < 0 then some true else
 (laws_toWord.f kf a0 a1 l2).bind fun (x0, x1, x2) => (spec_WordBits.f kf x0 x1 x2 n).bind fun (s1, s2) => (impl_WordBits.f kf x0 x1 x2 n).bind fun (g1, g2) => (laws_eqExS.f kf s1 s1).bind fun b1 => (laws_eqWord.f kf x0 x1 x2 x0 x1 x2).bind fun b3 => (laws_heldExS.f kf (mkL s1 1) 1).bind fun h1 =>
 if g2 = s2 ∧ b1 = true ∧ b3 = true ∧ h1 = 1 + 2 * (nL s1 : Int) ∧ nLW x2 ≤ 1048576 ∧ nL s1 ≤ 1048576 ∧ g1 = s1 then some true else none
set_option maxHeartbeats 4000000 in
set_option maxRecDepth 100000 in
theorem laws_FnExactWordBits.calls (kf : Nat) (a0 a1 : Int) (A1 : Option Addr) (c1 : Nat) (l2 : List S75) (n : Int) (r : Bool) (w : World) (hr1 : Kd.C k75 w A1 l2.length l2) (hc1 : l2.length ≤ c1) (h : laws_FnExactWordBits.f kf a0 a1 l2 n = some r) :
  Calls Try.prog 9 #[.agg #[.int .i64 a0, .int .i64 a1, .slice A1 l2.length c1], .int .i64 n] w fun e w' => e = .returned (.bool r) ∧ Below w.heap.size w w' := by
 have hu75 := Try.underlying75
 have hu81 := Try.underlying81
 unfold laws_FnExactWordBits.f at h
 have HB := Aside0.mk (Below.refl w.heap.size w)
 replace h := Option.bind_eq_some_iff.1 h
 obtain ⟨t, hsz, h⟩ := h
 by_cases ht : t < 0
 ·rw [if_pos ht] at h
  obtain rfl := Option.some.inj h
  clear h
  go_enter Try.func9, Try.ntmps9
  go_upto_region 1 with fail
  have hb2 : Below w.heap.size w (w.alloc (.cells #[.int .i64 a0, .int .i64 a1, .slice A1 l2.length c1] 75)) := below_alloc (Below.refl _ _) _
  have k1 : (w.alloc (.cells #[.int .i64 a0, .int .i64 a1, .slice A1 l2.length c1] 75)).heap[w.heap.size]? = some (.cells #[.int .i64 a0, .int .i64 a1, .slice A1 l2.length c1] 75 (0, 0)) := blk_new w _
  generalize w.alloc (.cells #[.int .i64 a0, .int .i64 a1, .slice A1 l2.length c1] 75) = wq at hb2 k1 ⊢
  have hp0 := (blk_cell k1 0).trans (show _ = some (.int .i64 a0) from rfl)
  have hp1 := (blk_cell k1 1).trans (show _ = some (.int .i64 a1) from rfl)
  have hp2 := (blk_cell k1 2).trans (show _ = some (.slice A1 l2.length c1) from rfl)
  clear HB k1
  have HB := Aside0.mk hb2
  clear hb2
  go_wp2_with (go_at_call 46; refine (laws_szWord.calls kf a0 a1 A1 c1 l2 1048576 t _ (Kd.C_below hr1 HB.out) hc1 hsz).mono ?_; rintro e w2 ⟨rfl, hb⟩; have HB2 := Aside0.mk (HB.out.trans (hb.mono HB.out.size)); clear hp0 hp1 hp2 hb HB)
  go_ret
  exact ⟨rfl, HB2.out⟩
 rw [if_neg ht] at h
 replace h := Option.bind_eq_some_iff.1 h
 obtain ⟨⟨x0, x1, x2⟩, hto, h⟩ := h
 replace h := Option.bind_eq_some_iff.1 h
 obtain ⟨⟨s1, s2⟩, hsp, h⟩ := h
 replace h := Option.bind_eq_some_iff.1 h
 obtain ⟨⟨g1, g2⟩, him, h⟩ := h
 replace h := Option.bind_eq_some_iff.1 h
 obtain ⟨b1, heb, h⟩ := h
 replace h := Option.bind_eq_some_iff.1 h
 obtain ⟨b3, hex, h⟩ := h
 replace h := Option.bind_eq_some_iff.1 h
 obtain ⟨h1, hhe, h⟩ := h
 try simp only at h
 rcases Classical.em (g2 = s2 ∧ b1 = true ∧ b3 = true ∧ h1 = 1 + 2 * (nL s1 : Int) ∧ nLW x2 ≤ 1048576 ∧ nL s1 ≤ 1048576 ∧ g1 = s1) with hc | hc
 ·rw [if_pos hc] at h
  obtain ⟨rfl, rfl, rfl, rfl, hnx_, hng_, rfl⟩ := hc
  obtain rfl := Option.some.inj h
  clear h
  have hnx := Aside0.mk hnx_
  have hng := Aside0.mk hng_
  have hne : (g2 != g2) = false := by simp
  clear hnx_ hng_
  obtain ⟨gp, hg⟩ : ∃ g, w.heap.size = g := ⟨_, rfl⟩
  go_enter Try.func9, Try.ntmps9
  go_upto_region 1 with fail
  have hb2 : Below w.heap.size w (w.alloc (.cells #[.int .i64 a0, .int .i64 a1, .slice A1 l2.length c1] 75)) := below_alloc (Below.refl _ _) _
  have k1 : (w.alloc (.cells #[.int .i64 a0, .int .i64 a1, .slice A1 l2.length c1] 75)).heap[gp]? = some (.cells #[.int .i64 a0, .int .i64 a1, .slice A1 l2.length c1] 75 (0, 0)) := by rw [← hg]; exact blk_new w _
  generalize w.alloc (.cells #[.int .i64 a0, .int .i64 a1, .slice A1 l2.length c1] 75) = wq at hb2 k1 ⊢
  have HGP := Aside0.mk (Nat.le_of_eq hg)
  have HQ0 := Aside0.mk (show gp < wq.heap.size from blk_lt k1)
  have HP := Aside0.mk (gf_blk (ok := fun k_ => k_ = gp) k1 rfl)
  clear HB
  have HB := Aside0.mk hb2
  clear hg hb2 k1
  have hp0 := (blk_cell HP.out.now 0).trans (show _ = some (.int .i64 a0) from rfl)
  have hp1 := (blk_cell HP.out.now 1).trans (show _ = some (.int .i64 a1) from rfl)
  have hp2 := (blk_cell HP.out.now 2).trans (show _ = some (.slice A1 l2.length c1) from rfl)
  go_upto_region 5 with (go_at_call 46; (with_reducible refine (laws_szWord.calls kf a0 a1 A1 c1 l2 1048576 t _ (Kd.C_below hr1 HB.out) hc1 hsz).mono ?_); rintro e w2 ⟨rfl, hb⟩; have HQ2 := Aside0.mk (Nat.lt_of_lt_of_le HQ0.out hb.size); clear hp0 hp1 hp2; have mHP_ := Aside0.mk (gf_below HP.out hb); have mHB_ := Aside0.mk (HB.out.trans (hb.mono HB.out.size)); clear HP HB; have HP := mHP_; have HB := mHB_; clear mHP_ mHB_; have hp0 := (blk_cell HP.out.now 0).trans (show _ = some (.int .i64 a0) from rfl); have hp1 := (blk_cell HP.out.now 1).trans (show _ = some (.int .i64 a1) from rfl); have hp2 := (blk_cell HP.out.now 2).trans (show _ = some (.slice A1 l2.length c1) from rfl); clear hb)
  go_upto_region 6 with (first
   | (go_at_call 48; (with_reducible refine (toSW.calls kf a0 a1 A1 c1 l2 x0 x1 x2 _ (Kd.C_below hr1 HB.out) hc1 hto).mono ?_); rintro e w3 ⟨v3, rfl, hS3, hb⟩; have HQ := Aside0.mk (Nat.lt_of_lt_of_le HQ2.out hb.size); clear hp0 hp1 hp2; have mHP_ := Aside0.mk (gf_below HP.out hb); have mHB_ := Aside0.mk (HB.out.trans (hb.mono HB.out.size)); clear HP HB; have HP := mHP_; have HB := mHB_; clear mHP_ mHB_; have hp0 := (blk_cell HP.out.now 0).trans (show _ = some (.int .i64 a0) from rfl); have hp1 := (blk_cell HP.out.now 1).trans (show _ = some (.int .i64 a1) from rfl); have hp2 := (blk_cell HP.out.now 2).trans (show _ = some (.slice A1 l2.length c1) from rfl); clear hb; obtain ⟨A3, c3, ev_, hl3, hC3⟩ := Kd.S_reads hS3; replace hC3 := kS81_C hC3; clear hS3; subst ev_)
   | (go_at_call 47; (with_reducible refine (spec_WordBits.calls kf x0 x1 A3 c3 x2 n g1 g2 _ hC3 hl3 hsp).mono ?_); rintro e w4 ⟨v4, rfl, hE4, hb⟩; clear hC3 hl3; have H34 := Aside0.mk hb.size; clear hp0 hp1 hp2; have mHP_ := Aside0.mk (gf_below HP.out hb); have mHB_ := Aside0.mk (HB.out.trans (hb.mono HB.out.size)); clear HP HB; have HP := mHP_; have HB := mHB_; clear mHP_ mHB_; have hp0 := (blk_cell HP.out.now 0).trans (show _ = some (.int .i64 a0) from rfl); have hp1 := (blk_cell HP.out.now 1).trans (show _ = some (.int .i64 a1) from rfl); have hp2 := (blk_cell HP.out.now 2).trans (show _ = some (.slice A1 l2.length c1) from rfl); clear hb; obtain ⟨A4, c4, ev4, hl4, hF4⟩ := EXs.bound hE4; clear hE4; subst ev4; have FW := Aside0.mk (gf_F (ok := fun k_ => w3.heap.size ≤ k_ ∧ k_ < w4.heap.size) hF4); have HL4 := Aside0.mk hl4; clear hF4 hl4))
  go_upto_region 7 with (first
   | (go_at_call 48; (with_reducible refine (toSW.calls kf a0 a1 A1 c1 l2 x0 x1 x2 _ (Kd.C_below hr1 HB.out) hc1 hto).mono ?_); rintro e w5 ⟨v5, rfl, hS5, hb⟩; have HX := Aside0.mk (gf_OTW (OTW.of _ x2 (Nat.lt_succ_self _) (Kd.S_mono (ok' := fun k_ => w4.heap.size ≤ k_ ∧ k_ < w5.heap.size) (Kd.S_bound hS5) (fun k_ hk_ => ⟨hk_.2.1, hk_.2.2.1⟩)))); have H45 := Aside0.mk hb.size; clear hp0 hp1 hp2; have mHP_ := Aside0.mk (gf_below HP.out hb); have mFW_ := Aside0.mk (gf_below FW.out hb); have mHB_ := Aside0.mk (HB.out.trans (hb.mono HB.out.size)); clear HP FW HB; have HP := mHP_; have FW := mFW_; have HB := mHB_; clear mHP_ mFW_ mHB_; have hp0 := (blk_cell HP.out.now 0).trans (show _ = some (.int .i64 a0) from rfl); have hp1 := (blk_cell HP.out.now 1).trans (show _ = some (.int .i64 a1) from rfl); have hp2 := (blk_cell HP.out.now 2).trans (show _ = some (.slice A1 l2.length c1) from rfl); clear hb; obtain ⟨A5, c5, ev5⟩ := Kd.S_slice hS5; clear hS5; subst ev5)
   | ((with_reducible refine gate_dst (N := 8) rfl ?_); refine box_event ?hg (N := 8) ?hd (cs := #[.int .i64 0, .int .i64 0, .slice none 0 0]) (t := 81) ?hr ?_; (case hd => rfl); (case hg => rfl); (case hr => first | (go_simp; done) | (go_simp; rfl)); intro gb5 hgw wb5 hbox hbb; have hcz0 := (blk_cell hbox 0).trans (show _ = some (.int .i64 0) from rfl); have hcz1 := (blk_cell hbox 1).trans (show _ = some (.int .i64 0) from rfl); have hcz2 := (blk_cell hbox 2).trans (show _ = some (.slice none 0 0) from rfl); have hfz0 := blk_frozen hbox 0; have hfz1 := blk_frozen hbox 1; have hfz2 := blk_frozen hbox 2; have hgw_ := Aside0.mk hgw; clear hgw; have hgw := hgw_; clear hgw_; )
   | ((with_reducible refine gate_store (t := 81) (p := 8) rfl ?_); refine store_event (t := 81) (p := 8) (v := ?vo_8) (w1 := ((wb5.setCell ⟨gb5, 0, none⟩ (.int .i64 x0)).setCell ⟨gb5, 1, none⟩ (.int .i64 x1)).setCell ⟨gb5, 2, none⟩ (.slice A5 x2.length c5)) ?hg ?ho ?hn ?hr ?_; (case ho => rfl); (case hg => rfl); (case hn => rfl); (case hr => first | (go_simp; done) | (go_simp; rfl)); clear hcz0 hcz1 hcz2 hfz0 hfz1 hfz2; intro w6 hw_; obtain ⟨hbk, hb⟩ := box81 (a := .int .i64 x0) (b := .int .i64 x1) (v := .slice A5 x2.length c5) hgw.out hbox hbb; rw [← hw_] at hbk hb; clear hw_ hbox hbb; have H56 := Aside0.mk (blk_lt hbk); have HG5 := Aside0.mk hgw.out; clear hp0 hp1 hp2; have mHP_ := Aside0.mk (gf_below HP.out hb); have mFW_ := Aside0.mk (gf_below FW.out hb); have mHX_ := Aside0.mk (gf_below HX.out hb); have mHB_ := Aside0.mk (HB.out.trans (hb.mono HB.out.size)); clear HP FW HX HB; have HP := mHP_; have FW := mFW_; have HX := mHX_; have HB := mHB_; clear mHP_ mFW_ mHX_ mHB_; have hp0 := (blk_cell HP.out.now 0).trans (show _ = some (.int .i64 a0) from rfl); have hp1 := (blk_cell HP.out.now 1).trans (show _ = some (.int .i64 a1) from rfl); have hp2 := (blk_cell HP.out.now 2).trans (show _ = some (.slice A1 l2.length c1) from rfl); have HXB := Aside0.mk (gf_blk (ok := fun k_ => k_ = gb5) hbk rfl); clear hgw hb hbk))
  have hx0 := (blk_cell HXB.out.now 0).trans (show _ = some (.int .i64 x0) from rfl)
  have hx1 := (blk_cell HXB.out.now 1).trans (show _ = some (.int .i64 x1) from rfl)
  have hx2 := (blk_cell HXB.out.now 2).trans (show _ = some (.slice A5 x2.length c5) from rfl)
  go_upto_region 8 with (go_at_call 49; (with_reducible refine (impl_WordBits.calls kf x0 x1 A5 c5 x2 n g1 g2 _ (gOTW_C HX.out.now).2 (gOTW_C HX.out.now).1 him).mono ?_); rintro e w7 ⟨v7, rfl, hS7, hb⟩; have HG := Aside0.mk (gf_OT (OT.of _ g1 (Nat.lt_succ_self _) (Kd.S_mono (ok' := fun k_ => w6.heap.size ≤ k_ ∧ k_ < w7.heap.size) (Kd.S_bound hS7) (fun k_ hk_ => ⟨hk_.2.1, hk_.2.2.1⟩)))); have H67 := Aside0.mk hb.size; clear hp0 hp1 hp2 hx0 hx1 hx2; have mHP_ := Aside0.mk (gf_below HP.out hb); have mFW_ := Aside0.mk (gf_below FW.out hb); have mHX_ := Aside0.mk (gf_below HX.out hb); have mHXB_ := Aside0.mk (gf_below HXB.out hb); have mHB_ := Aside0.mk (HB.out.trans (hb.mono HB.out.size)); clear HP FW HX HXB HB; have HP := mHP_; have FW := mFW_; have HX := mHX_; have HXB := mHXB_; have HB := mHB_; clear mHP_ mFW_ mHX_ mHXB_ mHB_; have hp0 := (blk_cell HP.out.now 0).trans (show _ = some (.int .i64 a0) from rfl); have hp1 := (blk_cell HP.out.now 1).trans (show _ = some (.int .i64 a1) from rfl); have hp2 := (blk_cell HP.out.now 2).trans (show _ = some (.slice A1 l2.length c1) from rfl); have hx0 := (blk_cell HXB.out.now 0).trans (show _ = some (.int .i64 x0) from rfl); have hx1 := (blk_cell HXB.out.now 1).trans (show _ = some (.int .i64 x1) from rfl); have hx2 := (blk_cell HXB.out.now 2).trans (show _ = some (.slice A5 x2.length c5) from rfl); clear hb; obtain ⟨A7, c7, ev7⟩ := Kd.S_slice hS7; clear hS7; subst ev7)
  go_upto_region 10 with (go_at_call 33; (with_reducible refine (laws_eqExS.calls kf A7 c7 g1 A4 c4 g1 true _ (gOT_C HG.out.now).2 (gOT_C HG.out.now).1 FW.out.now HL4.out heb).mono ?_); rintro e w8 ⟨rfl, hb⟩; clear hp0 hp1 hp2 hx0 hx1 hx2; have mHP_ := Aside0.mk (gf_below HP.out hb); have mFW_ := Aside0.mk (gf_below FW.out hb); have mHX_ := Aside0.mk (gf_below HX.out hb); have mHXB_ := Aside0.mk (gf_below HXB.out hb); have mHG_ := Aside0.mk (gf_below HG.out hb); have mHB_ := Aside0.mk (HB.out.trans (hb.mono HB.out.size)); clear HP FW HX HXB HG HB; have HP := mHP_; have FW := mFW_; have HX := mHX_; have HXB := mHXB_; have HG := mHG_; have HB := mHB_; clear mHP_ mFW_ mHX_ mHXB_ mHG_ mHB_; have hp0 := (blk_cell HP.out.now 0).trans (show _ = some (.int .i64 a0) from rfl); have hp1 := (blk_cell HP.out.now 1).trans (show _ = some (.int .i64 a1) from rfl); have hp2 := (blk_cell HP.out.now 2).trans (show _ = some (.slice A1 l2.length c1) from rfl); have hx0 := (blk_cell HXB.out.now 0).trans (show _ = some (.int .i64 x0) from rfl); have hx1 := (blk_cell HXB.out.now 1).trans (show _ = some (.int .i64 x1) from rfl); have hx2 := (blk_cell HXB.out.now 2).trans (show _ = some (.slice A5 x2.length c5) from rfl); clear hb)
  have wb10 : ∀ W, Below w8.drew.heap.size w8.drew W → Below w8.heap.size w8 W := fun W hW => (below_drew1 (Below.refl w8.heap.size w8)).trans hW
  have wb11 : ∀ W, Below w8.drew.heap.size w8.drew W → Below w.heap.size w W := fun W hW => HB.out.trans ((wb10 W hW).mono HB.out.size)
  have cm : ∀ (W : World) {p : Addr} {v : Value}, Below w8.drew.heap.size w8.drew W → w8.cell? p = some v → W.cell? p = some v := fun W p v hW hx => (hW.cell (World.block_lt_of_cell? w8 _ hx)).trans hx
  have qhp0 := fun (W : World) (hW : Below w8.drew.heap.size w8.drew W) => cm W hW hp0
  have qhp1 := fun (W : World) (hW : Below w8.drew.heap.size w8.drew W) => cm W hW hp1
  have qhp2 := fun (W : World) (hW : Below w8.drew.heap.size w8.drew W) => cm W hW hp2
  have qhx0 := fun (W : World) (hW : Below w8.drew.heap.size w8.drew W) => cm W hW hx0
  have qhx1 := fun (W : World) (hW : Below w8.drew.heap.size w8.drew W) => cm W hW hx1
  have qhx2 := fun (W : World) (hW : Below w8.drew.heap.size w8.drew W) => cm W hW hx2
  have hXC := fun (W : World) (hW : Below w8.drew.heap.size w8.drew W) => (show x2.length ≤ c5 ∧ Kd.C k81 W A5 x2.length x2 from ⟨(gOTW_C HX.out.now).1, Kd.C_below (gOTW_C HX.out.now).2 (wb10 W hW)⟩)
  clear hp0 hp1 hp2 hx0 hx1 hx2
  refine any_x [some 45, some 46, some 47, some 48, some 49] [some 45, some 46, some 47, some 48, some 49] [] 101 4 [0, 0, 2, 7, 15] [VP.eq (.agg #[.int .i64 x0, .int .i64 x1, .slice A5 x2.length c5]), VP.eq (.agg #[.int .i64 a0, .int .i64 a1, .slice A1 l2.length c1]), VP.w81 x0 x1 x2, VP.eq (.bool true)] (fun j hj => by cases hj) rfl wt9_10_tab rfl rfl (by kernel_rfl) rfl ⟨?_, ?_, ?_, ?_, trivial⟩ ?_
  ·intro bq W B hW hB hb hd K hK hK2 hK3; exact ld81_step rfl rfl (hb 8) (qhx0 W hW) (qhx1 W hW) (qhx2 W hW) (hK _ _ rfl (Below.refl _ _))
  ·intro bq W B hW hB hb hd K hK hK2 hK3; exact ld75_step rfl rfl (hb 2) (qhp0 W hW) (qhp1 W hW) (qhp2 W hW) (hK _ _ rfl (Below.refl _ _))
  ·intro bq W B hW hB hb hd K hK hK2 hK3; exact tw_step (hd 1 46) rfl rfl rfl (Kd.C_below hr1 (wb11 W hW)) hc1 hto (fun v W' hv hb => hK v W' hv hb)
  ·intro bq W B hW hB hb hd K hK hK2 hK3; exact ew_step (hd 0 45) rfl rfl rfl (hXC W hW).2 (hXC W hW).1 (hd 2 47) hex (fun W' hb => hK _ W' rfl hb)
  ·intro vals F W B hF hW hBB hV _
   have e48 : vals 48 = .bool true := hV 3 48 (of_decide_eq_true (by kernel_rfl)) rfl
   have hb : Below w8.heap.size w8 W := wb10 W hW
   rw [hF]
   clear hF hV hBB hW wb10 wb11 cm qhp0 qhp1 qhp2 qhx0 qhx1 qhx2 hXC
   simp only [List.take, fillA, Act.put, List.setIfInBounds_toArray, List.set_cons_zero, List.set_cons_succ, e48]
   clear e48
   have mHP_ := Aside0.mk (gf_below HP.out hb)
   have mFW_ := Aside0.mk (gf_below FW.out hb)
   have mHX_ := Aside0.mk (gf_below HX.out hb)
   have mHXB_ := Aside0.mk (gf_below HXB.out hb)
   have mHG_ := Aside0.mk (gf_below HG.out hb)
   have mHB_ := Aside0.mk (HB.out.trans (hb.mono HB.out.size))
   clear HP FW HX HXB HG HB
   have HP := mHP_
   have FW := mFW_
   have HX := mHX_
   have HXB := mHXB_
   have HG := mHG_
   have HB := mHB_
   clear mHP_ mFW_ mHX_ mHXB_ mHG_ mHB_
   clear hb
   have hp0 := (blk_cell HP.out.now 0).trans (show _ = some (.int .i64 a0) from rfl)
   have hp1 := (blk_cell HP.out.now 1).trans (show _ = some (.int .i64 a1) from rfl)
   have hp2 := (blk_cell HP.out.now 2).trans (show _ = some (.slice A1 l2.length c1) from rfl)
   have hx0 := (blk_cell HXB.out.now 0).trans (show _ = some (.int .i64 x0) from rfl)
   have hx1 := (blk_cell HXB.out.now 1).trans (show _ = some (.int .i64 x1) from rfl)
   have hx2 := (blk_cell HXB.out.now 2).trans (show _ = some (.slice A5 x2.length c5) from rfl)
   go_upto_region 13 with fail
   go_upto_region 14 with (go_at_call 51; (with_reducible refine (markEx_anyW x2 (fun k_ => w4.heap.size ≤ k_ ∧ k_ < w5.heap.size) A5 x2.length c5 rfl x0 x1 (1 : Int) w _ HB.out (fun k_ hk_ => by have g_ : w4.heap.size ≤ k_ ∧ k_ < w5.heap.size := hk_; have := H34.out; have := HGP.out; have := HQ.out; omega) HX.out.now (by decide) (by have := hnx.out; omega)).mono ?_); rintro e w13 ⟨rfl, hO_, hbB, hbK⟩; clear HX hO_; clear hp0 hp1 hp2 hx0 hx1 hx2; have mHP_ := Aside0.mk (gf_kept HP.out hbK (fun k_ hk_ hs_ => by have g1_ : k_ = gp := hk_; have g2_ : w4.heap.size ≤ k_ ∧ k_ < w5.heap.size := hs_.1; have := HQ.out; have := H34.out; have := H45.out; have := HG5.out; have := H56.out; have := H67.out; omega)); have mFW_ := Aside0.mk (gf_kept FW.out hbK (fun k_ hk_ hs_ => by have g1_ : w3.heap.size ≤ k_ ∧ k_ < w4.heap.size := hk_; have g2_ : w4.heap.size ≤ k_ ∧ k_ < w5.heap.size := hs_.1; have := HQ.out; have := H34.out; have := H45.out; have := HG5.out; have := H56.out; have := H67.out; omega)); have mHXB_ := Aside0.mk (gf_kept HXB.out hbK (fun k_ hk_ hs_ => by have g1_ : k_ = gb5 := hk_; have g2_ : w4.heap.size ≤ k_ ∧ k_ < w5.heap.size := hs_.1; have := HQ.out; have := H34.out; have := H45.out; have := HG5.out; have := H56.out; have := H67.out; omega)); have mHG_ := Aside0.mk (gf_kept HG.out hbK (fun k_ hk_ hs_ => by have g1_ : w6.heap.size ≤ k_ ∧ k_ < w7.heap.size := hk_; have g2_ : w4.heap.size ≤ k_ ∧ k_ < w5.heap.size := hs_.1; have := HQ.out; have := H34.out; have := H45.out; have := HG5.out; have := H56.out; have := H67.out; omega)); have mHB_ := Aside0.mk (hbB); clear HP FW HXB HG HB; have HP := mHP_; have FW := mFW_; have HXB := mHXB_; have HG := mHG_; have HB := mHB_; clear mHP_ mFW_ mHXB_ mHG_ mHB_; have hp0 := (blk_cell HP.out.now 0).trans (show _ = some (.int .i64 a0) from rfl); have hp1 := (blk_cell HP.out.now 1).trans (show _ = some (.int .i64 a1) from rfl); have hp2 := (blk_cell HP.out.now 2).trans (show _ = some (.slice A1 l2.length c1) from rfl); have hx0 := (blk_cell HXB.out.now 0).trans (show _ = some (.int .i64 x0) from rfl); have hx1 := (blk_cell HXB.out.now 1).trans (show _ = some (.int .i64 x1) from rfl); have hx2 := (blk_cell HXB.out.now 2).trans (show _ = some (.slice A5 x2.length c5) from rfl); clear hbK hbB)
   have hk0 : ¬ (((1 : Int) + 2 * nLW x2) < 0) := by have := hnx.out; omega
   go_upto_region 17 with (go_at_call 33; (with_reducible refine (laws_eqExS.calls kf A7 c7 g1 A4 c4 g1 true _ (gOT_C HG.out.now).2 (gOT_C HG.out.now).1 FW.out.now HL4.out heb).mono ?_); rintro e w14 ⟨rfl, hb⟩; clear hp0 hp1 hp2 hx0 hx1 hx2; have mHP_ := Aside0.mk (gf_below HP.out hb); have mFW_ := Aside0.mk (gf_below FW.out hb); have mHXB_ := Aside0.mk (gf_below HXB.out hb); have mHG_ := Aside0.mk (gf_below HG.out hb); have mHB_ := Aside0.mk (HB.out.trans (hb.mono HB.out.size)); clear HP FW HXB HG HB; have HP := mHP_; have FW := mFW_; have HXB := mHXB_; have HG := mHG_; have HB := mHB_; clear mHP_ mFW_ mHXB_ mHG_ mHB_; have hp0 := (blk_cell HP.out.now 0).trans (show _ = some (.int .i64 a0) from rfl); have hp1 := (blk_cell HP.out.now 1).trans (show _ = some (.int .i64 a1) from rfl); have hp2 := (blk_cell HP.out.now 2).trans (show _ = some (.slice A1 l2.length c1) from rfl); have hx0 := (blk_cell HXB.out.now 0).trans (show _ = some (.int .i64 x0) from rfl); have hx1 := (blk_cell HXB.out.now 1).trans (show _ = some (.int .i64 x1) from rfl); have hx2 := (blk_cell HXB.out.now 2).trans (show _ = some (.slice A5 x2.length c5) from rfl); clear hb)
   go_upto_region 19 with (go_at_call 34; (with_reducible refine (markExS_any (SizeOf.sizeOf g1 + 1) g1 (Nat.lt_succ_self _) (fun k_ => w6.heap.size ≤ k_ ∧ k_ < w7.heap.size) (.slice A7 g1.length c7) (1 : Int) w _ HB.out (fun k_ hk_ => by have g_ : w6.heap.size ≤ k_ ∧ k_ < w7.heap.size := hk_; have := H34.out; have := H45.out; have := H56.out; have := HG5.out; have := HGP.out; have := HQ.out; omega) HG.out.now (by decide) (by have := hng.out; omega)).mono ?_); rintro e w18 ⟨rfl, hO_, hbB, hbK⟩; clear HG; clear hp0 hp1 hp2 hx0 hx1 hx2; have mHP_ := Aside0.mk (gf_kept HP.out hbK (fun k_ hk_ hs_ => by have g1_ : k_ = gp := hk_; have g2_ : w6.heap.size ≤ k_ ∧ k_ < w7.heap.size := hs_; have := HQ.out; have := H34.out; have := H45.out; have := HG5.out; have := H56.out; have := H67.out; omega)); have mFW_ := Aside0.mk (gf_kept FW.out hbK (fun k_ hk_ hs_ => by have g1_ : w3.heap.size ≤ k_ ∧ k_ < w4.heap.size := hk_; have g2_ : w6.heap.size ≤ k_ ∧ k_ < w7.heap.size := hs_; have := HQ.out; have := H34.out; have := H45.out; have := HG5.out; have := H56.out; have := H67.out; omega)); have mHXB_ := Aside0.mk (gf_kept HXB.out hbK (fun k_ hk_ hs_ => by have g1_ : k_ = gb5 := hk_; have g2_ : w6.heap.size ≤ k_ ∧ k_ < w7.heap.size := hs_; have := HQ.out; have := H34.out; have := H45.out; have := HG5.out; have := H56.out; have := H67.out; omega)); have mHB_ := Aside0.mk (hbB); clear HP FW HXB HB; have HP := mHP_; have FW := mFW_; have HXB := mHXB_; have HB := mHB_; clear mHP_ mFW_ mHXB_ mHB_; have hp0 := (blk_cell HP.out.now 0).trans (show _ = some (.int .i64 a0) from rfl); have hp1 := (blk_cell HP.out.now 1).trans (show _ = some (.int .i64 a1) from rfl); have hp2 := (blk_cell HP.out.now 2).trans (show _ = some (.slice A1 l2.length c1) from rfl); have hx0 := (blk_cell HXB.out.now 0).trans (show _ = some (.int .i64 x0) from rfl); have hx1 := (blk_cell HXB.out.now 1).trans (show _ = some (.int .i64 x1) from rfl); have hx2 := (blk_cell HXB.out.now 2).trans (show _ = some (.slice A5 x2.length c5) from rfl); have HG := Aside0.mk (gf_OT hO_); clear hO_ hbK hbB)
   have hh0 : ¬ (((1 : Int) + 2 * nL g1) < 0) := by have := hng.out; omega
   go_upto_region 24 with (go_at_call 52; (with_reducible refine (heldS_at kf A7 g1.length c7 (mkL g1 1) (mkL_length g1 1) 1 (1 + 2 * (nL g1 : Int)) _ HG.out.now hhe).mono ?_); rintro e w19 ⟨rfl, hb⟩; clear hp0 hp1 hp2 hx0 hx1 hx2; have mHP_ := Aside0.mk (gf_below HP.out hb); have mFW_ := Aside0.mk (gf_below FW.out hb); have mHXB_ := Aside0.mk (gf_below HXB.out hb); have mHG_ := Aside0.mk (gf_below HG.out hb); have mHB_ := Aside0.mk (HB.out.trans (hb.mono HB.out.size)); clear HP FW HXB HG HB; have HP := mHP_; have FW := mFW_; have HXB := mHXB_; have HG := mHG_; have HB := mHB_; clear mHP_ mFW_ mHXB_ mHG_ mHB_; have hp0 := (blk_cell HP.out.now 0).trans (show _ = some (.int .i64 a0) from rfl); have hp1 := (blk_cell HP.out.now 1).trans (show _ = some (.int .i64 a1) from rfl); have hp2 := (blk_cell HP.out.now 2).trans (show _ = some (.slice A1 l2.length c1) from rfl); have hx0 := (blk_cell HXB.out.now 0).trans (show _ = some (.int .i64 x0) from rfl); have hx1 := (blk_cell HXB.out.now 1).trans (show _ = some (.int .i64 x1) from rfl); have hx2 := (blk_cell HXB.out.now 2).trans (show _ = some (.slice A5 x2.length c5) from rfl); clear hb)
   go_upto_region 25 with (first
    | (go_at_call 48; (with_reducible refine (toSW.calls kf a0 a1 A1 c1 l2 x0 x1 x2 _ (Kd.C_below hr1 HB.out) hc1 hto).mono ?_); rintro e w24 ⟨v24, rfl, hS24, hb⟩; clear hp0 hp1 hp2 hx0 hx1 hx2; have mHP_ := Aside0.mk (gf_below HP.out hb); have mFW_ := Aside0.mk (gf_below FW.out hb); have mHXB_ := Aside0.mk (gf_below HXB.out hb); have mHG_ := Aside0.mk (gf_below HG.out hb); have mHB_ := Aside0.mk (HB.out.trans (hb.mono HB.out.size)); clear HP FW HXB HG HB; have HP := mHP_; have FW := mFW_; have HXB := mHXB_; have HG := mHG_; have HB := mHB_; clear mHP_ mFW_ mHXB_ mHG_ mHB_; have hp0 := (blk_cell HP.out.now 0).trans (show _ = some (.int .i64 a0) from rfl); have hp1 := (blk_cell HP.out.now 1).trans (show _ = some (.int .i64 a1) from rfl); have hp2 := (blk_cell HP.out.now 2).trans (show _ = some (.slice A1 l2.length c1) from rfl); have hx0 := (blk_cell HXB.out.now 0).trans (show _ = some (.int .i64 x0) from rfl); have hx1 := (blk_cell HXB.out.now 1).trans (show _ = some (.int .i64 x1) from rfl); have hx2 := (blk_cell HXB.out.now 2).trans (show _ = some (.slice A5 x2.length c5) from rfl); clear hb; obtain ⟨A24, c24, ev_, hl24, hC24⟩ := Kd.S_reads hS24; replace hC24 := kS81_C hC24; clear hS24; subst ev_)
    | (go_at_call 49; (with_reducible refine (impl_WordBits.calls kf x0 x1 A24 c24 x2 n g1 g2 _ hC24 hl24 him).mono ?_); rintro e w25 ⟨v25, rfl, hS25, hb⟩; clear hC24 hl24; clear hp0 hp1 hp2 hx0 hx1 hx2; have mHP_ := Aside0.mk (gf_below HP.out hb); have mFW_ := Aside0.mk (gf_below FW.out hb); have mHXB_ := Aside0.mk (gf_below HXB.out hb); have mHG_ := Aside0.mk (gf_below HG.out hb); have mHB_ := Aside0.mk (HB.out.trans (hb.mono HB.out.size)); clear HP FW HXB HG HB; have HP := mHP_; have FW := mFW_; have HXB := mHXB_; have HG := mHG_; have HB := mHB_; clear mHP_ mFW_ mHXB_ mHG_ mHB_; have hp0 := (blk_cell HP.out.now 0).trans (show _ = some (.int .i64 a0) from rfl); have hp1 := (blk_cell HP.out.now 1).trans (show _ = some (.int .i64 a1) from rfl); have hp2 := (blk_cell HP.out.now 2).trans (show _ = some (.slice A1 l2.length c1) from rfl); have hx0 := (blk_cell HXB.out.now 0).trans (show _ = some (.int .i64 x0) from rfl); have hx1 := (blk_cell HXB.out.now 1).trans (show _ = some (.int .i64 x1) from rfl); have hx2 := (blk_cell HXB.out.now 2).trans (show _ = some (.slice A5 x2.length c5) from rfl); clear hb; obtain ⟨A25, c25, ev_, hl25, hC25⟩ := Kd.S_reads hS25; replace hC25 := kS31_C hC25; clear hS25; subst ev_; have HC25 := Aside0.mk (And.intro hC25 hl25); clear hC25 hl25))
   go_upto_region 28 with (go_at_call 33; (with_reducible refine (laws_eqExS.calls kf A25 c25 g1 A4 c4 g1 true _ HC25.out.1 HC25.out.2 FW.out.now HL4.out heb).mono ?_); rintro e w26 ⟨rfl, hb⟩; clear HC25; clear hp0 hp1 hp2 hx0 hx1 hx2; have mHP_ := Aside0.mk (gf_below HP.out hb); have mFW_ := Aside0.mk (gf_below FW.out hb); have mHXB_ := Aside0.mk (gf_below HXB.out hb); have mHG_ := Aside0.mk (gf_below HG.out hb); have mHB_ := Aside0.mk (HB.out.trans (hb.mono HB.out.size)); clear HP FW HXB HG HB; have HP := mHP_; have FW := mFW_; have HXB := mHXB_; have HG := mHG_; have HB := mHB_; clear mHP_ mFW_ mHXB_ mHG_ mHB_; have hp0 := (blk_cell HP.out.now 0).trans (show _ = some (.int .i64 a0) from rfl); have hp1 := (blk_cell HP.out.now 1).trans (show _ = some (.int .i64 a1) from rfl); have hp2 := (blk_cell HP.out.now 2).trans (show _ = some (.slice A1 l2.length c1) from rfl); have hx0 := (blk_cell HXB.out.now 0).trans (show _ = some (.int .i64 x0) from rfl); have hx1 := (blk_cell HXB.out.now 1).trans (show _ = some (.int .i64 x1) from rfl); have hx2 := (blk_cell HXB.out.now 2).trans (show _ = some (.slice A5 x2.length c5) from rfl); clear hb)
   go_wp2_with (go_at_call 52; (with_reducible refine (heldS_at kf A7 g1.length c7 (mkL g1 1) (mkL_length g1 1) 1 (1 + 2 * (nL g1 : Int)) _ HG.out.now hhe).mono ?_); rintro e w28 ⟨rfl, hb⟩; clear hp0 hp1 hp2 hx0 hx1 hx2; have mHP_ := Aside0.mk (gf_below HP.out hb); have mFW_ := Aside0.mk (gf_below FW.out hb); have mHXB_ := Aside0.mk (gf_below HXB.out hb); have mHG_ := Aside0.mk (gf_below HG.out hb); have mHB_ := Aside0.mk (HB.out.trans (hb.mono HB.out.size)); clear HP FW HXB HG HB; have HP := mHP_; have FW := mFW_; have HXB := mHXB_; have HG := mHG_; have HB := mHB_; clear mHP_ mFW_ mHXB_ mHG_ mHB_; have hp0 := (blk_cell HP.out.now 0).trans (show _ = some (.int .i64 a0) from rfl); have hp1 := (blk_cell HP.out.now 1).trans (show _ = some (.int .i64 a1) from rfl); have hp2 := (blk_cell HP.out.now 2).trans (show _ = some (.slice A1 l2.length c1) from rfl); have hx0 := (blk_cell HXB.out.now 0).trans (show _ = some (.int .i64 x0) from rfl); have hx1 := (blk_cell HXB.out.now 1).trans (show _ = some (.int .i64 x1) from rfl); have hx2 := (blk_cell HXB.out.now 2).trans (show _ = some (.slice A5 x2.length c5) from rfl); clear hb)
   go_ret
   exact ⟨rfl, HB.out⟩
 ·rw [if_neg hc] at h
  cases h
end Go.Proofs.Ytcmkkoggdcjceaa.PFnExactWordBits
end
section
set_option linter.unusedVariables false
set_option linter.unusedSimpArgs false
namespace Go.Proofs.Ytcmkkoggdcjceaa.Reads
open Go.RowKit Go.ChangeShapes Go.WideShapes Go.Deep Go.Proofs.YtcmkkoggdcjceaaW.PrintWords
def ReadsN (P : Program) (n : Nat) (t : TypeId) {α : Type} (d : Kd α) (wf : α → Prop) : Prop :=
 ∀ (H : Type) (enc : TypeId × Value → H) (w : World) (base : Nat) (spare : Nat → Bool) (held : Bool) (cs : List Value) (x : DataW H × List MemPlace),
  DataW.trod enc P w base spare held n t cs = some x → (x.1.weights P t).all (· ≤ reachBytes) = true → ∃ a : α, d.K w a cs ∧ wf a
def Reads (P : Program) (t : TypeId) {α : Type} (d : Kd α) (wf : α → Prop) : Prop := ∀ n, ReadsN P n t d wf
theorem wf_i64 {z : Int} (h : (Lit.int .i64 z).wf = true) : -9223372036854775808 ≤ z ∧ z ≤ 9223372036854775807 := by
 simp only [Lit.wf, Bool.and_eq_true, decide_eq_true_eq] at h
 exact h
def WFI (z : Int) : Prop := -9223372036854775808 ≤ z ∧ z ≤ 9223372036854775807
def WFL {α : Type} (b : Nat) (wf : α → Prop) (l : List α) : Prop := l.length * b ≤ 140737488351232 ∧ ∀ x ∈ l, wf x
theorem int {P : Program} {n : Nat} {t : TypeId} (ht : P.underlying t = some (.int .i64)) : ReadsN P n t (Kd.int .i64) WFI := by
 intro H enc w base spare held cs x h _
 obtain ⟨z, rfl, rfl, hw⟩ := DataW.trod_int ht h
 exact ⟨z, rfl, wf_i64 hw⟩
theorem all_of {H : Type} {P : Program} {e : TypeId} : ∀ {l : List (DataW H)}, (DataW.weightsAll P e l).all (· ≤ reachBytes) = true → ∀ d ∈ l, (d.weights P e).all (· ≤ reachBytes) = true
 | [], _, d, hd => by cases hd
 | y :: r, h, d, hd => by
  simp only [DataW.weightsAll, List.all_append, Bool.and_eq_true] at h
  rcases List.mem_cons.1 hd with rfl | hd
  ·exact h.1
  ·exact all_of h.2 d hd
theorem slice {P : Program} {n : Nat} {t e : TypeId} {α : Type} {d : Kd α} {wf : α → Prop} {b : Nat} (ht : P.underlying t = some (.slice e)) (hc : P.cellsOf e = d.sz) (hb : P.bytesOf e = b) (he : ∀ m, m < n → ReadsN P m e d wf) :
  ReadsN P n t (Kd.slice e d) (WFL b wf) := by
 intro H enc w base spare held cs x h hr
 cases n with
 | zero => simp [DataW.trod] at h
 | succ n =>
  have h' := h
  simp only [DataW.trod, ht] at h'
  match cs, h' with
  | [.slice none 0 0], h' =>
   refine ⟨[], ⟨none, 0, rfl, Nat.le_refl _, rfl, by simp, fun h => absurd h (Nat.lt_irrefl 0)⟩, by simp, fun x hx => by cases hx⟩
  | [.slice (some a) len cap], h' =>
   simp only at h'
   split at h'
   ·rename_i hcond
    obtain ⟨elems, hel, h2⟩ := Option.bind_eq_some_iff.1 h'
    obtain ⟨rest, hrest, rfl⟩ := Option.map_eq_some_iff.1 h2
    simp only [DataW.weights, ht, List.all_cons, List.all_append, Bool.and_eq_true, hb, List.length_map, decide_eq_true_eq] at hr
    have hlen : elems.length = len := by simpa using mapM_some_length hel
    have hget : ∀ i, i < len → ∃ y : α, wf y ∧ ∃ c, c.length = d.sz ∧ d.K w y c ∧ ∀ j u, c[j]? = some u → w.cell? (a.add (i * d.sz + j)) = some u := by
     intro i hi
     have h3 := mapM_some_get hel i i (by simp [hi])
     rw [List.getElem?_eq_getElem (by omega)] at h3
     obtain ⟨cs', hcs, htr⟩ := Option.bind_eq_some_iff.1 h3
     obtain ⟨y, hK, hw⟩ := he n (Nat.lt_succ_self n) H enc w base spare held cs' _ htr (all_of hr.2.1 _ (List.mem_map.2 ⟨elems[i]'(by omega), List.getElem_mem _, rfl⟩))
     obtain ⟨_, hcl, hat⟩ := World.cells?_some hcs
     rw [hc] at hcl hat
     refine ⟨y, hw, cs', hcl, hK, fun j u hj => ?_⟩
     have hjl : j < d.sz := by
      rw [← hcl]
      exact (List.getElem?_eq_some_iff.1 hj).1
     rw [← Deep.add_add, hat j hjl, hj]
    rcases Nat.eq_zero_or_pos len with hz | hz
    ·subst hz
     refine ⟨[], ⟨some a, cap, rfl, Nat.zero_le _, rfl, by simp, fun h => absurd h (Nat.lt_irrefl 0)⟩, by simp, fun x hx => by cases hx⟩
    have hinh : Inhabited α := ⟨(hget 0 hz).choose⟩
    obtain ⟨f, hf⟩ := choose_lt hget
    refine ⟨(List.range len).map f, ⟨some a, cap, ?_, ?_, ?_, ?_, ?_⟩, ?_, ?_⟩
    ·simp
    ·simpa using hcond.2.1
    ·simp
    ·have := hcond.2.2
     have := hcond.2.1
     simp [maxLen] at *
     omega
    ·intro _
     refine ⟨a, rfl, fun j p hj => ?_⟩
     have hjl : j < len := by
      have := (List.getElem?_eq_some_iff.1 hj).1
      simpa using this
     simp [hjl] at hj
     subst hj
     obtain ⟨_, c, h1, h2, h3⟩ := hf j hjl
     exact ⟨c, h1, h2, h3⟩
    ·have h4 := hr.1
     simp only [reachBytes] at h4
     have : len * b ≤ (elems.length + rest.length) * b := Nat.mul_le_mul_right _ (by omega)
     simp
     omega
    ·intro y hy
     obtain ⟨i, hi, rfl⟩ := List.mem_map.1 hy
     exact (hf i (by simpa using hi)).1
   ·cases h'
theorem intR {P : Program} {t : TypeId} (ht : P.underlying t = some (.int .i64)) : Reads P t (Kd.int .i64) WFI := fun _ => int ht
theorem sliceR {P : Program} {t e : TypeId} {α : Type} {d : Kd α} {wf : α → Prop} {b : Nat} (ht : P.underlying t = some (.slice e)) (hc : P.cellsOf e = d.sz) (hb : P.bytesOf e = b) (he : Reads P e d wf) : Reads P t (Kd.slice e d) (WFL b wf) :=
 fun _ => slice ht hc hb (fun m _ => he m)
def FieldsN (P : Program) (n : Nat) (fs : List Field) (off : Nat) {α : Type} (d : Kd α) (wf : α → Prop) : Prop :=
 ∀ (H : Type) (enc : TypeId × Value → H) (w : World) (base : Nat) (spare : Nat → Bool) (held : Bool) (cs : List Value) (xs : List (DataW H × List MemPlace)),
  (fs.mapM fun f => DataW.trod enc P w base spare held n f.type ((cs.drop f.offset).take (P.cellsOf f.type))) = some xs →
  (DataW.weightsEach P (fs.map (·.type)) (xs.map (·.1))).all (· ≤ reachBytes) = true → cs.length = off + d.sz → ∃ a : α, d.K w a (cs.drop off) ∧ wf a
theorem last {P : Program} {n : Nat} {f : Field} {off : Nat} {α : Type} {d : Kd α} {wf : α → Prop} (ho : f.offset = off) (hc : P.cellsOf f.type = d.sz) (h : ReadsN P n f.type d wf) : FieldsN P n [f] off d wf := by
 intro H enc w base spare held cs xs hm hr hl
 simp only [List.mapM_cons, List.mapM_nil, Option.bind_eq_bind, Option.bind_eq_some_iff, Option.pure_def, Option.some.injEq] at hm
 obtain ⟨y, hy, _, rfl, rfl⟩ := hm
 rw [ho, hc, List.take_of_length_le (by rw [List.length_drop]; omega)] at hy
 simp only [List.map_cons, List.map_nil, DataW.weightsEach, List.append_nil] at hr
 exact h H enc w base spare held _ _ hy hr
theorem more {P : Program} {n : Nat} {f : Field} {fs : List Field} {off : Nat} {α β : Type} {d : Kd α} {d' : Kd β} {wf : α → Prop} {wf' : β → Prop} (ho : f.offset = off) (hc : P.cellsOf f.type = d.sz)
  (h : ReadsN P n f.type d wf) (h' : FieldsN P n fs (off + d.sz) d' wf') : FieldsN P n (f :: fs) off (Kd.pair d d') (fun x => wf x.1 ∧ wf' x.2) := by
 intro H enc w base spare held cs xs hm hr hl
 simp only [List.mapM_cons, Option.bind_eq_bind, Option.bind_eq_some_iff, Option.pure_def, Option.some.injEq] at hm
 obtain ⟨y, hy, ys, hys, rfl⟩ := hm
 simp only [List.map_cons, DataW.weightsEach, List.all_append, Bool.and_eq_true] at hr
 have hl' : cs.length = off + (d.sz + d'.sz) := hl
 rw [ho, hc] at hy
 obtain ⟨a, hK, hw⟩ := h H enc w base spare held _ _ hy hr.1
 obtain ⟨b, hK', hw'⟩ := h' H enc w base spare held cs ys hys hr.2 (by omega)
 refine ⟨(a, b), ⟨_, _, ?_, hK, hK'⟩, hw, hw'⟩
 have := (List.take_append_drop d.sz (cs.drop off)).symm
 rwa [List.drop_drop] at this
theorem struct {P : Program} {n : Nat} {t : TypeId} {fs : Array Field} {α β : Type} {d : Kd α} {wf : α → Prop} (f : β → α) (g : α → β) (hfg : ∀ a, f (g a) = a) (ht : P.underlying t = some (.struct fs)) (hc : P.cellsOf t = d.sz)
  (h : ∀ m, m < n → FieldsN P m fs.toList 0 d wf) : ReadsN P n t (Kd.iso d f) (fun x => wf (f x)) := by
 intro H enc w base spare held cs x hx hr
 cases n with
 | zero => simp [DataW.trod] at hx
 | succ n =>
  simp only [DataW.trod, ht] at hx
  have hx' : cs.length = P.cellsOf t ∧ ∃ xs, (fs.toList.mapM fun f => DataW.trod enc P w base spare held n f.type ((cs.drop f.offset).take (P.cellsOf f.type))) = some xs ∧ (.agg (xs.map (·.1)), xs.flatMap (·.2)) = x := by
   split at hx <;> simp_all
  obtain ⟨hl, xs, hm, rfl⟩ := hx'
  simp only [DataW.weights, ht] at hr
  obtain ⟨a, hK, hw⟩ := h n (Nat.lt_succ_self n) H enc w base spare held cs xs hm hr (by rw [hl, hc]; omega)
  rw [List.drop_zero] at hK
  exact ⟨g a, by show d.K w (f (g a)) cs; rw [hfg]; exact hK, by show wf (f (g a)); rw [hfg]; exact hw⟩
theorem nested {P : Program} {t : TypeId} {α : Type} {F : Kd α → Kd α} {sz : Nat} {E : List Nat} {hs : ∀ n, (Kd.upto F sz E n).sz = sz} {hE : ∀ n q, q ∈ (Kd.upto F sz E n).E → q ∈ E} {wf : Nat → α → Prop}
  (h : ∀ n, (∀ m, m ≤ n → ReadsN P m t (Kd.upto F sz E n) (wf n)) → ∀ m, m ≤ n + 1 → ReadsN P m t (F (Kd.upto F sz E n)) (wf (n + 1))) : Reads P t (Kd.fix F sz E hs hE) (fun x => ∃ n, wf n x) := by
 have key : ∀ n m, m ≤ n → ReadsN P m t (Kd.upto F sz E n) (wf n) := by
  intro n
  induction n with
  | zero =>
   intro m hm H enc w base spare held cs x hx
   obtain rfl : m = 0 := by omega
   simp [DataW.trod] at hx
  | succ n ih => exact h n ih
 intro n H enc w base spare held cs x hx hr
 obtain ⟨a, hK, hw⟩ := key n n (Nat.le_refl _) H enc w base spare held cs x hx hr
 exact ⟨a, ⟨n, hK⟩, n, hw⟩
theorem each_of {H : Type} {P : Program} : ∀ {ts : List TypeId} {ds : List (DataW H)} {j : Nat} {t : TypeId} {d : DataW H}, (DataW.weightsEach P ts ds).all (· ≤ reachBytes) = true → ts[j]? = some t → ds[j]? = some d → (d.weights P t).all (· ≤ reachBytes) = true
 | [], _, _, _, _, _, h, _ => by simp at h
 | _ :: _, [], _, _, _, _, _, h => by simp at h
 | t0 :: ts, d0 :: ds, 0, t, d, h, ht, hd => by
  simp only [List.getElem?_cons_zero, Option.some.injEq] at ht hd
  subst ht hd
  simp only [DataW.weightsEach, List.all_append, Bool.and_eq_true] at h
  exact h.1
 | t0 :: ts, d0 :: ds, j + 1, t, d, h, ht, hd => by
  simp only [DataW.weightsEach, List.all_append, Bool.and_eq_true] at h
  exact each_of (j := j) h.2 (by simpa using ht) (by simpa using hd)
theorem arg {H : Type} {enc : TypeId × Value → H} {P : Program} {W : World} {base : Nat} {spare : Nat → Bool} {held : Bool} {t : TypeId} {v : Value} {d : DataW H} {ps : List MemPlace} {ts : List TypeId} {ds : List (DataW H)} {j : Nat} {α : Type} {k : Kd α} {wf : α → Prop}
  (hk : Reads P t k wf) (hsz : (DataW.weightsEach P ts ds).all (· ≤ reachBytes) = true) (ht : ts[j]? = some t) (hd : ds[j]? = some d) (h : DataW.Trod enc P W base spare held t v d ps) : ∃ a : α, k.K W a v.cells.toList ∧ wf a := by
 obtain ⟨fuel, hf⟩ := h
 exact hk fuel H enc W base spare held _ _ hf (each_of hsz ht hd)
end Go.Proofs.Ytcmkkoggdcjceaa.Reads
end
section
set_option linter.unusedVariables false
namespace Go.Proofs.Ytcmkkoggdcjceaa.PFnExactWordBits
open Go.RowKit Go.Proofs.YtcmkkoggdcjceaaW.PrintWords Go.Proofs.YtcmkkoggdcjceaaW.PrintLast Go.Proofs.Ytcmkkoggdcjceaa
def wf75N : Nat → S75 → Prop
 | 0, _ => False
 | n + 1, x => Reads.WFI x.f0 ∧ (Reads.WFI x.f1 ∧ (Reads.WFL 40 (wf75N n) x.f2))
def wf75 (x : S75) : Prop := ∃ n, wf75N n x
def laws_FnExactWordBits.Pure : Prop := ∀ (a0_0 : Int) (a0_1 : Int) (l0_2 : List (S75)) (a1 : Int), Reads.WFI a0_0 → Reads.WFI a0_1 → (Reads.WFL 40 wf75) l0_2 → Reads.WFI a1 → ∃ k, laws_FnExactWordBits.f k a0_0 a0_1 l0_2 a1 = some true
theorem rk75 : Reads.Reads Try.prog 75 k75 wf75 := Reads.nested (wf := wf75N) (fun n h_ m_ hm_ => Reads.struct (wf := fun p => Reads.WFI (p.1) ∧ (Reads.WFI (p.2.1) ∧ (Reads.WFL 40 (wf75N n) (p.2.2)))) (fun x : S75 => (x.f0, x.f1, x.f2)) (fun p => ⟨p.1, p.2.1, p.2.2⟩) (fun _ => rfl) Try.underlying75 (by kernel_rfl) (fun m _ => (Reads.more rfl (by kernel_rfl) ((Reads.intR Try.underlying3) m) (Reads.more rfl (by kernel_rfl) ((Reads.intR Try.underlying3) m) (Reads.last rfl (by kernel_rfl) (Reads.slice (n := m) (t := 73) (e := 75) Try.underlying73 (by rw [sz75]; kernel_rfl) (by kernel_rfl) (fun q_ hq_ => h_ q_ (by omega))))))))
end Go.Proofs.Ytcmkkoggdcjceaa.PFnExactWordBits
end
section
set_option linter.unusedVariables false
set_option linter.unusedSimpArgs false
namespace Go.Proofs.Ytcmkkoggdcjceaa.Plain
open Go.RowKit Go.Proofs.YtcmkkoggdcjceaaW.PrintWords
section
variable {α β : Type}
theorem ifp {c : Prop} [Decidable c] {f g : Nat → Option α} {r : α} (h : c) (k : Ev f r) : Ev (fun n => if c then f n else g n) r := by
 obtain ⟨K, hK⟩ := k
 exact ⟨K, fun n hn => by simp only [if_pos h]; exact hK n hn⟩
theorem ifn {c : Prop} [Decidable c] {f g : Nat → Option α} {r : α} (h : ¬ c) (k : Ev g r) : Ev (fun n => if c then f n else g n) r := by
 obtain ⟨K, hK⟩ := k
 exact ⟨K, fun n hn => by simp only [if_neg h]; exact hK n hn⟩
theorem bnd {g : Nat → Option α} {f : Nat → α → Option β} {a : α} {r : β} (h : Ev g a) (k : Ev (fun n => f n a) r) : Ev (fun n => (g n).bind (f n)) r := Ev.bind h k
theorem bnd0 {g : Option α} {f : Nat → α → Option β} {a : α} {r : β} (h : g = some a) (k : Ev (fun n => f n a) r) : Ev (fun n => g.bind (f n)) r := by
 obtain ⟨K, hK⟩ := k
 exact ⟨K, fun n hn => by rw [h]; exact hK n hn⟩
theorem stp {g f : Nat → Option α} {r : α} (h : ∀ k, g (k + 1) = f k) (k : Ev f r) : Ev g r := Ev.step h k
theorem evc {g f : Nat → Option α} {r : α} (h : ∀ k, g k = f k) (k : Ev f r) : Ev g r := Ev.congr h k
theorem sm (r : α) : Ev (fun _ => some r) r := Ev.now r
end
theorem up {i n : Int} (h0 : 0 ≤ i) (h : i < n) (hn : n ≤ 9223372036854775807) : wrap64 (i + 1) = i + 1 := by
 unfold wrap64
 omega
theorem w64 {x : Int} (h0 : -9223372036854775808 ≤ x) (h : x ≤ 9223372036854775807) : wrap64 x = x := by
 unfold wrap64
 omega
theorem set_take {α β : Type} (f : α → β) (xs : List α) (out : List β) (i : Nat) (x : α) (hx : xs[i]? = some x) (hl : out.length = xs.length) (h : out.take i = (xs.take i).map f) :
  (out.set i (f x)).take (i + 1) = (xs.take (i + 1)).map f := by
 have hi : i < xs.length := (List.getElem?_eq_some_iff.1 hx).1
 rw [List.take_succ_eq_append_getElem (by simp; omega), List.take_succ_eq_append_getElem hi, List.map_append, List.map_singleton, ← h]
 congr 1
 ·rw [List.take_set]
  apply List.set_eq_of_length_le
  simp
  omega
 ·rw [List.getElem_set_self]
  rw [(List.getElem?_eq_some_iff.1 hx).2]
theorem copy {α β : Type} (f : α → β) (xs : List α) (L : Int → List β → Nat → Option (List β))
  (hend : ∀ out, Ev (L (xs.length : Int) out) out)
  (hstep : ∀ (i : Nat) (out : List β) (r : List β) (x : α), xs[i]? = some x → out.length = xs.length → Ev (L ((i : Int) + 1) (out.set i (f x))) r → Ev (L (i : Int) out) r) :
  ∀ out, out.length = xs.length → Ev (L 0 out) (xs.map f) := by
 have key : ∀ (d i : Nat) (out : List β), i + d = xs.length → out.length = xs.length → out.take i = (xs.take i).map f → Ev (L (i : Int) out) (xs.map f) := by
  intro d
  induction d with
  | zero =>
   intro i out hd hl ht
   have hi : i = xs.length := by omega
   subst hi
   rw [List.take_of_length_le (by omega), List.take_of_length_le (by omega)] at ht
   subst ht
   exact hend _
  | succ d ih =>
   intro i out hd hl ht
   have hi : i < xs.length := by omega
   have hx : xs[i]? = some xs[i] := List.getElem?_eq_getElem hi
   refine hstep i out _ _ hx hl ?_
   have := ih (i + 1) (out.set i (f xs[i])) (by omega) (by simpa using hl) (set_take f xs out i _ hx hl ht)
   rwa [show ((i + 1 : Nat) : Int) = (i : Int) + 1 by omega] at this
 intro out hl
 have := key xs.length 0 out (by omega) hl (by simp)
 simpa using this
theorem same {α : Type} (xs : List α) (L : Int → Nat → Option Bool)
  (hend : Ev (L (xs.length : Int)) true)
  (hstep : ∀ (i : Nat) (x : α), xs[i]? = some x → Ev (L ((i : Int) + 1)) true → Ev (L (i : Int)) true) : Ev (L 0) true := by
 have key : ∀ (d i : Nat), i + d = xs.length → Ev (L (i : Int)) true := by
  intro d
  induction d with
  | zero =>
   intro i hd
   have hi : i = xs.length := by omega
   subst hi
   exact hend
  | succ d ih =>
   intro i hd
   have hi : i < xs.length := by omega
   refine hstep i _ (List.getElem?_eq_getElem hi) ?_
   have := ih (i + 1) (by omega)
   rwa [show ((i + 1 : Nat) : Int) = (i : Int) + 1 by omega] at this
 simpa using key xs.length 0 (by omega)
theorem allL {α : Type} (xs : List α) (q : α → Bool) (L : Int → Nat → Option Bool)
  (hend : Ev (L (xs.length : Int)) true)
  (hstep : ∀ (i : Nat) (x : α) (r : Bool), xs[i]? = some x → Ev (L ((i : Int) + 1)) r → Ev (L (i : Int)) (q x && r)) : Ev (L 0) (xs.all q) := by
 have key : ∀ (d i : Nat), i + d = xs.length → Ev (L (i : Int)) ((xs.drop i).all q) := by
  intro d
  induction d with
  | zero =>
   intro i hd
   have hi : i = xs.length := by omega
   subst hi
   rw [List.drop_length]
   exact hend
  | succ d ih =>
   intro i hd
   have hi : i < xs.length := by omega
   have := ih (i + 1) (by omega)
   rw [show ((i + 1 : Nat) : Int) = (i : Int) + 1 by omega] at this
   rw [List.drop_eq_getElem_cons hi, List.all_cons]
   exact hstep i _ _ (List.getElem?_eq_getElem hi) this
 simpa using key xs.length 0 (by omega)
theorem u64_in {x : Int} (h0 : 0 ≤ x) (h1 : x ≤ 9223372036854775807) : IntKind.u64.wrap x = x := by
 simp [IntKind.wrap, IntKind.bits, IntKind.signed, IntKind.min, IntKind.max] at *
 omega
theorem getD_some {α : Type} {xs : List α} {i : Nat} {x d : α} (h : xs[i]? = some x) : xs.getD ((i : Int).toNat) d = x := by
 simp [List.getD, h]
end Go.Proofs.Ytcmkkoggdcjceaa.Plain
end
section
set_option linter.unusedVariables false
set_option linter.unusedSimpArgs false
namespace Go.Proofs.Ytcmkkoggdcjceaa.Pure
open Go.RowKit Go.Proofs.Ytcmkkoggdcjceaa Go.Proofs.Ytcmkkoggdcjceaa.PFnExactWordBits Go.Proofs.YtcmkkoggdcjceaaW.PrintWords Go.Proofs.YtcmkkoggdcjceaaW.PrintLast Go.Proofs.Ytcmkkoggdcjceaa.Plain
namespace Wd
mutual
def cv : S75 → S81
 | ⟨a, b, l⟩ => ⟨a, b, cvs l⟩
def cvs : List S75 → List S81
 | [] => []
 | x :: r => cv x :: cvs r
end
theorem cvs_map (l : List S75) : cvs l = l.map cv := by
 induction l with
 | nil => rfl
 | cons x r ih => rw [cvs, List.map_cons, ih]
theorem cv_0 (x : S75) : (cv x).f0 = x.f0 := by
 obtain ⟨a, b, l⟩ := x
 rw [cv]
theorem cv_1 (x : S75) : (cv x).f1 = x.f1 := by
 obtain ⟨a, b, l⟩ := x
 rw [cv]
theorem cv_2 (x : S75) : (cv x).f2 = x.f2.map cv := by
 obtain ⟨a, b, l⟩ := x
 rw [cv]
 exact cvs_map l
theorem cv_mk (x : S75) : (⟨x.f0, x.f1, x.f2.map cv⟩ : S81) = cv x := by
 obtain ⟨a, b, l⟩ := x
 rw [cv, cvs_map]
abbrev WL (n : Nat) (l : List S75) : Prop := Reads.WFL 40 (wf75N n) l
theorem wl_le {n m : Nat} (h : n ≤ m) : ∀ x, wf75N n x → wf75N m x := by
 induction n generalizing m with
 | zero => exact fun x hx => hx.elim
 | succ n ih =>
  intro x hx
  cases m with
  | zero => omega
  | succ m => exact ⟨hx.1, hx.2.1, hx.2.2.1, fun y hy => ih (by omega) y (hx.2.2.2 y hy)⟩
theorem wl_of {l : List S75} (h : Reads.WFL 40 wf75 l) : ∃ n, WL n l := by
 have : ∀ l : List S75, (∀ x ∈ l, wf75 x) → ∃ n, ∀ x ∈ l, wf75N n x := by
  intro l
  induction l with
  | nil => exact fun _ => ⟨0, fun x hx => by cases hx⟩
  | cons a r ih =>
   intro h
   obtain ⟨n, hn⟩ := ih fun x hx => h x (List.mem_cons_of_mem _ hx)
   obtain ⟨m, hm⟩ := h a List.mem_cons_self
   refine ⟨n + m, fun x hx => ?_⟩
   rcases List.mem_cons.1 hx with rfl | hx
   ·exact wl_le (by omega) _ hm
   ·exact wl_le (by omega) _ (hn x hx)
 obtain ⟨n, hn⟩ := this l h.2
 exact ⟨n, h.1, hn⟩
theorem toS_is (n : Nat) : ∀ l, WL n l → Ev (fun k => laws_toWordS.f k l) (l.map cv) := by
 induction n with
 | zero =>
  intro l h
  cases l with
  | cons x r => exact (h.2 x List.mem_cons_self).elim
  | nil => exact stp (fun k => laws_toWordS.f.eq_2 ..) (ifp (by simp) (ifp (by simp) (stp (fun k => laws_toWordS.l0.eq_2 ..) (ifn (by simp) (sm _)))))
 | succ n ih =>
  intro l h
  have hl : l.length * 40 ≤ 140737488351232 := h.1
  refine stp (fun k => laws_toWordS.f.eq_2 ..) (ifp (by omega) (ifp (by omega) ?_))
  refine copy cv l (fun i out k => laws_toWordS.l0 k l out i) ?_ ?_ (List.replicate (l.length : Int).toNat z81) (by simp)
  ·intro out
   exact stp (fun k => laws_toWordS.l0.eq_2 ..) (ifn (by omega) (sm _))
  ·intro i out r x hx hlen hk
   have hi : i < l.length := (List.getElem?_eq_some_iff.1 hx).1
   have hw := h.2 x (List.mem_of_getElem? hx)
   refine stp (fun k => laws_toWordS.l0.eq_2 ..) (ifp (by omega) (ifp (by omega) ?_))
   rw [show rd_T75 l (i : Int) = x from getD_some hx, up (by omega) (by omega : (i : Int) < (l.length : Int)) (by omega), Int.toNat_natCast]
   refine bnd (a := (x.f0, x.f1, x.f2.map cv)) (bnd (ih x.f2 hw.2.2) (sm _)) (ifp (by omega) ?_)
   show Ev (fun k => laws_toWordS.l0 k l (out.set i ⟨x.f0, x.f1, x.f2.map cv⟩) ((i : Int) + 1)) r
   rw [cv_mk]
   exact hk
theorem to_is (a b : Int) (l : List S75) (h : Reads.WFL 40 wf75 l) : Ev (fun k => laws_toWord.f k a b l) (a, b, l.map cv) := by
 obtain ⟨n, hn⟩ := wl_of h
 exact bnd (toS_is n l hn) (sm _)
def HN : Nat → S81 → Prop
 | 0, _ => False
 | n + 1, x => Reads.WFI x.f0 ∧ (Reads.WFI x.f1 ∧ Reads.WFL 40 (HN n) x.f2)
abbrev HL (n : Nat) (l : List S81) : Prop := Reads.WFL 40 (HN n) l
theorem HN_cv (n : Nat) : ∀ x, wf75N n x → HN n (cv x) := by
 induction n with
 | zero => exact fun x h => h.elim
 | succ n ih =>
  intro x h
  refine ⟨by rw [cv_0]; exact h.1, by rw [cv_1]; exact h.2.1, ?_⟩
  rw [cv_2]
  refine ⟨by simpa using h.2.2.1, fun y hy => ?_⟩
  obtain ⟨z, hz, rfl⟩ := List.mem_map.1 hy
  exact ih z (h.2.2.2 z hz)
theorem HL_cv (n : Nat) (l : List S75) (h : WL n l) : HL n (l.map cv) := by
 refine ⟨by simpa using h.1, fun y hy => ?_⟩
 obtain ⟨z, hz, rfl⟩ := List.mem_map.1 hy
 exact HN_cv n z (h.2 z hz)
theorem eqS_self (n : Nat) : ∀ l, HL n l → Ev (fun k => laws_eqWordS.f k l l) true := by
 induction n with
 | zero =>
  intro l h
  cases l with
  | cons x r => exact (h.2 x List.mem_cons_self).elim
  | nil => exact stp (fun k => laws_eqWordS.f.eq_2 ..) (ifp rfl (stp (fun k => laws_eqWordS.l0.eq_2 ..) (ifn (by simp) (sm _))))
 | succ n ih =>
  intro l h
  have hl : l.length * 40 ≤ 140737488351232 := h.1
  refine stp (fun k => laws_eqWordS.f.eq_2 ..) (ifp rfl ?_)
  refine same l (fun i k => laws_eqWordS.l0 k l l i) ?_ ?_
  ·exact stp (fun k => laws_eqWordS.l0.eq_2 ..) (ifn (by omega) (sm _))
  ·intro i x hx hk
   have hi : i < l.length := (List.getElem?_eq_some_iff.1 hx).1
   have hw := h.2 x (List.mem_of_getElem? hx)
   refine stp (fun k => laws_eqWordS.l0.eq_2 ..) (ifp (by omega) (ifp (by omega) (ifp (by omega) ?_)))
   rw [show rd_T81 l (i : Int) = x from getD_some hx, up (by omega) (by omega : (i : Int) < (l.length : Int)) (by omega)]
   exact bnd (a := true) (ifp rfl (ifp rfl (bnd (ih x.f2 hw.2.2) (ifp rfl (sm _))))) (ifp rfl hk)
theorem eq_self (n : Nat) (a b : Int) (l : List S81) (h : HL n l) : Ev (fun k => laws_eqWord.f k a b l a b l) true := ifp rfl (ifp rfl (bnd (eqS_self n l h) (ifp rfl (sm _))))
mutual
/-- how many nodes a tree has -/
def nodes : S81 → Nat
 | ⟨_, _, l⟩ => 1 + nodess l
def nodess : List S81 → Nat
 | [] => 0
 | x :: r => nodes x + nodess r
end
theorem nodes_pos (x : S81) : 1 ≤ nodes x := by
 obtain ⟨a, b, l⟩ := x
 rw [nodes]
 omega
theorem eta (x : S81) : (⟨x.f0, x.f1, x.f2⟩ : S81) = x := by
 obtain ⟨a, b, l⟩ := x
 rfl
theorem left_is (n : Nat) : ∀ (a b : Int) (l : List S81), HL n l → ∀ left : Int, 0 ≤ left → left ≤ 1048576 → ∃ v : Int, -1 ≤ v ∧ v ≤ 1048576 ∧ Ev (fun k => spec_l05Left.f k a b l left) v ∧ (0 ≤ v ↔ ((nodes ⟨a, b, l⟩ : Nat) : Int) ≤ left) ∧ (0 ≤ v → v = left - ((nodes ⟨a, b, l⟩ : Nat) : Int)) := by
 induction n with
 | zero =>
  intro a b l h left h0 h1
  cases l with
  | cons x r => exact (h.2 x List.mem_cons_self).elim
  | nil =>
   refine ⟨left - 1, by omega, by omega, stp (fun k => spec_l05Left.f.eq_2 ..) ?_, ?_, ?_⟩
   ·rw [w64 (by omega) (by omega)]
    exact stp (fun k => spec_l05Left.l0.eq_2 ..) (ifn (by simp) (sm _))
   ·rw [nodes, nodess]
    omega
   ·rw [nodes, nodess]
    omega
 | succ n ih =>
  intro a b l h left h0 h1
  have hl : l.length * 40 ≤ 140737488351232 := h.1
  have key : ∀ (d i : Nat) (lf : Int), i + d = l.length → -1 ≤ lf → lf ≤ 1048576 → ∃ v : Int, -1 ≤ v ∧ v ≤ 1048576 ∧ Ev (fun k => spec_l05Left.l0 k lf (i : Int) a b l) v ∧ (0 ≤ v ↔ ((nodess (l.drop i) : Nat) : Int) ≤ lf) ∧ (0 ≤ v → v = lf - ((nodess (l.drop i) : Nat) : Int)) := by
   intro d
   induction d with
   | zero =>
    intro i lf hi hf0 hf1
    obtain rfl : i = l.length := by omega
    refine ⟨lf, hf0, hf1, stp (fun k => spec_l05Left.l0.eq_2 ..) (ifn (by omega) (sm _)), ?_, ?_⟩
    ·rw [List.drop_length, nodess]
     omega
    ·rw [List.drop_length, nodess]
     omega
   | succ d ihd =>
    intro i lf hi hf0 hf1
    have hil : i < l.length := by omega
    have hx : l[i]? = some l[i] := List.getElem?_eq_getElem hil
    have hw := h.2 l[i] (List.getElem_mem hil)
    rw [List.drop_eq_getElem_cons hil, nodess]
    have hp := nodes_pos l[i]
    by_cases hneg : lf ≥ 0
    ·obtain ⟨v, hv0, hv1, hv, hv2, hv3⟩ := ih l[i].f0 l[i].f1 l[i].f2 hw.2.2 lf hneg hf1
     obtain ⟨u, hu0, hu1, hu, hu2, hu3⟩ := ihd (i + 1) v (by omega) hv0 hv1
     rw [eta l[i]] at hv2 hv3
     refine ⟨u, hu0, hu1, stp (fun k => spec_l05Left.l0.eq_2 ..) (ifp (by omega) (ifp hneg (ifp (by omega) ?_))), ?_, ?_⟩
     ·rw [show rd_T81 l (i : Int) = l[i] from getD_some hx, up (by omega) (by omega : (i : Int) < (l.length : Int)) (by omega)]
      rw [show ((i + 1 : Nat) : Int) = (i : Int) + 1 by omega] at hu
      exact bnd hv hu
     ·omega
     ·omega
    ·refine ⟨lf, hf0, hf1, stp (fun k => spec_l05Left.l0.eq_2 ..) (ifp (by omega) (ifn hneg (sm _))), ?_, ?_⟩
     ·omega
     ·omega
  obtain ⟨v, hv0, hv1, hev, h2, h3⟩ := key l.length 0 (left - 1) (by omega) (by omega) (by omega)
  refine ⟨v, hv0, hv1, stp (fun k => spec_l05Left.f.eq_2 ..) ?_, ?_, ?_⟩
  ·rw [w64 (by omega) (by omega)]
   exact hev
  ·rw [List.drop_zero] at h2
   rw [nodes]
   omega
  ·rw [List.drop_zero] at h3
   rw [nodes]
   omega
mutual
/-- a word's nodes are right, their count aside -/
def rightB (bits : Int) : S81 → Bool
 | ⟨kind, n, kids⟩ => match okW bits kind n with
  | none => false
  | some (m, ok) => ok && (((kids.length : Int) == m) && rights bits kids)
def rights (bits : Int) : List S81 → Bool
 | [] => true
 | x :: r => rightB bits x && rights bits r
end
mutual
theorem count_is (bits : Int) : ∀ (y : S81) (c : Int), 0 ≤ c → c ≤ 9 → (countW bits y c).1 = (rightB bits y && decide (c + ((nodes y : Nat) : Int) ≤ 9)) ∧ ((countW bits y c).1 = true → (countW bits y c).2 = c + ((nodes y : Nat) : Int))
 | ⟨kind, n, kids⟩, c, h0, h1 => by
  rw [countW, rightB, nodes, w64 (x := c + 1) (by omega) (by omega)]
  cases hk : okW bits kind n with
  | none => exact ⟨by simp, by simp⟩
  | some q =>
   obtain ⟨m, ok⟩ := q
   simp only
   by_cases t1 : c + 1 > 9
   ·rw [decide_eq_true t1, Bool.true_or, if_pos rfl]
    have : ¬ (c + ((1 + nodess kids : Nat) : Int) ≤ 9) := by omega
    rw [decide_eq_false this]
    exact ⟨by simp, by simp⟩
   ·have hc := counts_is bits kids (c + 1) (by omega) (by omega)
    rw [decide_eq_false t1, Bool.false_or]
    cases ok with
    | false => exact ⟨by simp, by simp⟩
    | true =>
     cases hm : ((kids.length : Int) == m) with
     | false => exact ⟨by simp, by simp⟩
     | true =>
      simp only [Bool.not_true, Bool.or_self, Bool.true_and, Bool.false_eq_true, if_false]
      rw [show c + ((1 + nodess kids : Nat) : Int) = c + 1 + ((nodess kids : Nat) : Int) by omega]
      exact hc
theorem counts_is (bits : Int) : ∀ (l : List S81) (c : Int), 0 ≤ c → c ≤ 9 → (countWs bits l c).1 = (rights bits l && decide (c + ((nodess l : Nat) : Int) ≤ 9)) ∧ ((countWs bits l c).1 = true → (countWs bits l c).2 = c + ((nodess l : Nat) : Int))
 | [], c, h0, h1 => by
  rw [countWs, rights, nodess, decide_eq_true (by omega)]
  exact ⟨rfl, fun _ => by simp⟩
 | x :: r, c, h0, h1 => by
  have hx := count_is bits x c h0 h1
  rw [countWs, rights, nodess]
  generalize countW bits x c = q at hx
  obtain ⟨q1, q2⟩ := q
  simp only at hx
  obtain ⟨e1, e2⟩ := hx
  cases q1 with
  | false =>
   refine ⟨?_, by simp⟩
   simp only
   cases hb : rightB bits x with
   | false => simp
   | true =>
    rw [hb, Bool.true_and] at e1
    have := of_decide_eq_false e1.symm
    rw [decide_eq_false (by omega)]
    simp
  | true =>
   have e3 := e2 rfl
   subst e3
   have e4 := Bool.and_eq_true_iff.1 e1.symm
   have e5 := of_decide_eq_true e4.2
   have hr := counts_is bits r (c + ((nodes x : Nat) : Int)) (by omega) e5
   rw [e4.1, Bool.true_and]
   rw [show c + ((nodes x + nodess r : Nat) : Int) = c + ((nodes x : Nat) : Int) + ((nodess r : Nat) : Int) by omega]
   exact hr
end
theorem in_is (a lo hi : Int) : spec_l01In.f a lo hi = some (decide (lo ≤ a) && decide (a ≤ hi)) := by
 unfold spec_l01In.f
 by_cases h : a ≥ lo
 ·rw [if_pos h, decide_eq_true (show lo ≤ a from h), Bool.true_and]
 ·rw [if_neg h, decide_eq_false (show ¬ lo ≤ a from h), Bool.false_and]
theorem shl_is (bits : Int) (h1 : 1 ≤ bits) (h2 : bits ≤ 6) : wrap64 ((shl .i64 1 (IntKind.u64.wrap bits)) - 1) = wrap64 (wrap64 (2 ^ bits.toNat) - 1) := by
 obtain rfl | rfl | rfl | rfl | rfl | rfl : bits = 1 ∨ bits = 2 ∨ bits = 3 ∨ bits = 4 ∨ bits = 5 ∨ bits = 6 := by omega
 all_goals kernel_rfl
theorem quo_is (bits n : Int) (h1 : 1 ≤ bits) (h2 : bits ≤ 6) : (n < wrap64 ((12 : Int) / bits)) ↔ (n ≤ wrap64 ((12 : Int) / bits - 1)) := by
 obtain rfl | rfl | rfl | rfl | rfl | rfl : bits = 1 ∨ bits = 2 ∨ bits = 3 ∨ bits = 4 ∨ bits = 5 ∨ bits = 6 := by omega
 all_goals (simp [wrap64]; omega)
theorem len_zero (bits : Int) (l : List S81) : (((l.length : Int) == 0) && rights bits l) = ((l.length : Int) == 0) := by
 cases l with
 | nil => simp [rights]
 | cons x r =>
  rw [beq_false_of_ne (by simp; omega)]
  rfl
theorem jright_is (bits : Int) (a b : Int) (l : List S81) (hl : l.length * 40 ≤ 140737488351232) (t : Bool) (ih : ∀ x ∈ l, Ev (fun k => spec_l05Right.f k x.f0 x.f1 x.f2 bits) (rightB bits x)) : Ev (fun k => spec_l05Right.j0 k bits t a b l) (t && ((b == 0) && (((l.length : Int) == 2) && rights bits l))) := by
 refine stp (fun k => spec_l05Right.j0.eq_2 ..) ?_
 cases t with
 | false => exact ifn (by simp) (sm _)
 | true =>
  refine ifp rfl ?_
  by_cases hb : b = 0
  ·subst hb
   refine ifp rfl ?_
   by_cases h2 : (l.length : Int) = 2
   ·refine ifp h2 (ifp (by omega) ?_)
    obtain ⟨x, y, rfl⟩ : ∃ x y, l = [x, y] := by
     cases l with
     | nil => simp at h2
     | cons x r =>
      cases r with
      | nil => simp at h2
      | cons y r =>
       cases r with
       | nil => exact ⟨x, y, rfl⟩
       | cons z r => simp at h2; omega
    refine bnd (ih x (by simp)) ?_
    rw [rights, rights, rights, Bool.and_true]
    cases hx : rightB bits x with
    | false => exact ifn (by simp) (sm _)
    | true =>
     refine ifp rfl (ifp (by simp) ?_)
     exact bnd (ih y (by simp)) (sm _)
   ·rw [beq_false_of_ne h2]
    exact ifn h2 (sm _)
  ·rw [beq_false_of_ne hb]
   exact ifn hb (sm _)
theorem rstep_is (bits : Int) (hb1 : 1 ≤ bits) (hb2 : bits ≤ 6) (a b : Int) (l : List S81) (hl : l.length * 40 ≤ 140737488351232) (ih : ∀ x ∈ l, Ev (fun k => spec_l05Right.f k x.f0 x.f1 x.f2 bits) (rightB bits x)) : Ev (fun k => spec_l05Right.f k a b l bits) (rightB bits ⟨a, b, l⟩) := by
 refine stp (fun k => spec_l05Right.f.eq_2 ..) ?_
 by_cases k1 : a = 1
 ·subst k1
  refine ifp rfl (ifp (by rw [u64_in (by omega) (by omega)]; omega) ?_)
  rw [shl_is bits hb1 hb2, rightB, okW, if_pos rfl]
  refine bnd0 (in_is _ _ _) ?_
  cases h : (decide (0 ≤ b) && decide (b ≤ wrap64 (wrap64 (2 ^ bits.toNat) - 1))) with
  | false => exact ifn (by simp) (sm _)
  | true =>
   show Ev _ (true && (((l.length : Int) == 0) && rights bits l))
   rw [len_zero, Bool.true_and]
   exact ifp rfl (sm _)
 ·refine ifn k1 ?_
  by_cases k2 : a = 2
  ·subst k2
   refine ifp rfl ?_
   rw [rightB, okW, if_neg (show ¬ (2 : Int) = 1 by decide), if_pos rfl]
   show Ev _ ((decide (0 ≤ b) && decide (b ≤ wrap64 ((12 : Int) / bits - 1))) && (((l.length : Int) == 0) && rights bits l))
   by_cases h0 : b ≥ 0
   ·rw [decide_eq_true (show 0 ≤ b from h0), Bool.true_and]
    refine ifp h0 (ifn (by omega) ?_)
    by_cases h2 : b ≤ wrap64 ((12 : Int) / bits - 1)
    ·rw [decide_eq_true h2, Bool.true_and, len_zero]
     exact ifp ((quo_is bits b hb1 hb2).2 h2) (sm _)
    ·rw [decide_eq_false h2, Bool.false_and]
     exact ifn (fun h => h2 ((quo_is bits b hb1 hb2).1 h)) (sm _)
   ·rw [decide_eq_false (show ¬ 0 ≤ b from h0), Bool.false_and, Bool.false_and]
    exact ifn h0 (sm _)
  ·refine ifn k2 ?_
   by_cases k3 : a = 3
   ·subst k3
    rw [rightB, okW, if_neg (by decide), if_neg (by decide), if_pos rfl]
    exact ifp rfl (jright_is bits 3 b l hl _ ih)
   ·refine ifn k3 ?_
    by_cases k4 : a = 4
    ·subst k4
     rw [rightB, okW, if_neg (by decide), if_neg (by decide), if_neg (by decide), if_pos rfl]
     exact ifp rfl (jright_is bits 4 b l hl _ ih)
    ·refine ifn k4 ?_
     have := jright_is bits a b l hl (a == 5) ih
     by_cases k5 : a = 5
     ·subst k5
      rw [rightB, okW, if_neg (by decide), if_neg (by decide), if_neg (by decide), if_neg (by decide), if_pos rfl]
      exact this
     ·rw [beq_false_of_ne k5] at this ⊢
      rw [rightB, okW, if_neg k1, if_neg k2, if_neg k3, if_neg k4, if_neg k5]
      exact this
theorem right_is (bits : Int) (hb1 : 1 ≤ bits) (hb2 : bits ≤ 6) (n : Nat) : ∀ (a b : Int) (l : List S81), HL n l → Ev (fun k => spec_l05Right.f k a b l bits) (rightB bits ⟨a, b, l⟩) := by
 induction n with
 | zero =>
  intro a b l h
  exact rstep_is bits hb1 hb2 a b l h.1 fun x hx => (h.2 x hx).elim
 | succ n ih =>
  intro a b l h
  refine rstep_is bits hb1 hb2 a b l h.1 fun x hx => ?_
  have := ih x.f0 x.f1 x.f2 (h.2 x hx).2.2
  rwa [eta x] at this
def wordB (a b : Int) (l : List S81) (bits : Int) : Bool := (decide (1 ≤ bits) && decide (bits ≤ 6)) && (rightB bits ⟨a, b, l⟩ && decide (((nodes ⟨a, b, l⟩ : Nat) : Int) ≤ 9))
theorem wordOK_same (n : Nat) (a b : Int) (l : List S81) (bits : Int) (h0 : Reads.WFI a) (h1 : Reads.WFI b) (h : HL n l) : Ev (fun k => spec_WordOK.f k a b l bits) (wordB a b l bits) := by
 unfold wordB
 refine bnd0 (in_is bits 1 6) ?_
 cases hb : (decide (1 ≤ bits) && decide (bits ≤ 6)) with
 | false => exact ifn (by simp) (sm _)
 | true =>
  have hb' := Bool.and_eq_true_iff.1 hb
  have hb1 := of_decide_eq_true hb'.1
  have hb2 := of_decide_eq_true hb'.2
  refine ifp rfl ?_
  obtain ⟨v, _, _, hv, e1, _⟩ := left_is n a b l h 9 (by omega) (by omega)
  refine bnd hv ?_
  by_cases hs : v ≥ 0
  ·rw [decide_eq_true (e1.1 hs), Bool.and_true, Bool.true_and]
   exact ifp hs (bnd (right_is bits hb1 hb2 n a b l h) (sm _))
  ·rw [decide_eq_false (fun x => hs (e1.2 x)), Bool.and_false, Bool.true_and]
   exact ifn hs (sm _)
theorem szW_is (n : Nat) : ∀ l, WL n l → ∀ left : Int, 0 ≤ left → left ≤ 1048576 → ∃ v : Int, -1 ≤ v ∧ v ≤ 1048576 ∧ Ev (fun k => laws_szWordS.f k l left) v ∧ (0 ≤ v → v = left - ((nLW (l.map cv) : Nat) : Int)) := by
 induction n with
 | zero =>
  intro l h left h0 h1
  cases l with
  | cons x r => exact (h.2 x List.mem_cons_self).elim
  | nil =>
   refine ⟨left, by omega, h1, stp (fun k => laws_szWordS.f.eq_2 ..) ?_, fun _ => by simp [nLW]⟩
   rw [show wrap64 (left - (([] : List S75).length : Int)) = left by simp; exact w64 (by omega) (by omega)]
   exact ifn (by omega) (stp (fun k => laws_szWordS.l0.eq_2 ..) (ifn (by simp) (sm _)))
 | succ n ih =>
  intro l h left h0 h1
  have hl : l.length * 40 ≤ 140737488351232 := h.1
  by_cases hs : left - (l.length : Int) < 0
  ·exact ⟨-1, by omega, by omega, stp (fun k => laws_szWordS.f.eq_2 ..) (ifp (by rw [w64 (by omega) (by omega)]; exact hs) (sm _)), by omega⟩
  ·have key : ∀ (d i : Nat) (lf : Int), i + d = l.length → 0 ≤ lf → lf ≤ 1048576 → ∃ v : Int, -1 ≤ v ∧ v ≤ 1048576 ∧ Ev (fun k => laws_szWordS.l0 k l lf (i : Int)) v ∧ (0 ≤ v → v = lf - (((nLW ((l.drop i).map cv) : Nat) : Int) - (d : Int))) := by
    intro d
    induction d with
    | zero =>
     intro i lf hi hf0 hf1
     refine ⟨lf, by omega, hf1, stp (fun k => laws_szWordS.l0.eq_2 ..) (ifn (by omega) (sm _)), fun _ => ?_⟩
     obtain rfl : i = l.length := by omega
     rw [List.drop_length, List.map_nil, nLW]
     omega
    | succ d ihd =>
     intro i lf hi hf0 hf1
     have hil : i < l.length := by omega
     have hx : l[i]? = some l[i] := List.getElem?_eq_getElem hil
     have hw := h.2 l[i] (List.getElem_mem hil)
     obtain ⟨v, hv0, hv1, hv, hv2⟩ := ih l[i].f2 hw.2.2 lf hf0 hf1
     rw [List.drop_eq_getElem_cons hil, List.map_cons, nLW, nT_eqW, cv_2]
     by_cases hn : v < 0
     ·refine ⟨-1, by omega, by omega, stp (fun k => laws_szWordS.l0.eq_2 ..) (ifp (by omega) (ifp (by omega) ?_)), by omega⟩
      rw [show rd_T75 l (i : Int) = l[i] from getD_some hx]
      exact bnd (a := -1) (bnd hv (ifp hn (sm _))) (ifp (by omega) (sm _))
     ·obtain ⟨u, hu0, hu1, hu, hu2⟩ := ihd (i + 1) v (by omega) (by omega) hv1
      rw [show ((i + 1 : Nat) : Int) = (i : Int) + 1 by omega] at hu
      refine ⟨u, hu0, hu1, stp (fun k => laws_szWordS.l0.eq_2 ..) (ifp (by omega) (ifp (by omega) ?_)), fun hu3 => ?_⟩
      ·rw [show rd_T75 l (i : Int) = l[i] from getD_some hx, up (by omega) (by omega : (i : Int) < (l.length : Int)) (by omega)]
       exact bnd (a := v) (bnd hv (ifn hn (sm _))) (ifn hn hu)
      ·have := hu2 hu3
       have := hv2 (by omega)
       omega
   obtain ⟨v, hv0, hv1, hev, hv2⟩ := key l.length 0 (left - (l.length : Int)) (by omega) (by omega) (by omega)
   refine ⟨v, hv0, hv1, stp (fun k => laws_szWordS.f.eq_2 ..) (ifn (by rw [w64 (by omega) (by omega)]; exact hs) ?_), fun h3 => ?_⟩
   ·rw [w64 (by omega) (by omega)]
    exact hev
   ·have := hv2 h3
    rw [List.drop_zero] at this
    omega
theorem isWord_is (a b : Int) (l : List S81) (bits : Int) : impl_isWord.f a b l bits = some (wordB a b l bits) := by
 unfold impl_isWord.f wordB
 cases hb : (decide (1 ≤ bits) && decide (bits ≤ 6)) with
 | false => rfl
 | true =>
  rw [if_pos rfl, (count_is bits ⟨a, b, l⟩ 0 (by omega) (by omega)).1]
  simp
end Wd
def HN : Nat → S31 → Prop
 | 0, _ => False
 | n + 1, x => Reads.WFI x.f0 ∧ (Reads.WFI x.f1 ∧ Reads.WFL 40 (HN n) x.f2)
abbrev HL (n : Nat) (l : List S31) : Prop := Reads.WFL 40 (HN n) l
theorem eqS_self (n : Nat) : ∀ l, HL n l → Ev (fun k => laws_eqExS.f k l l) true := by
 induction n with
 | zero =>
  intro l h
  cases l with
  | cons x r => exact (h.2 x List.mem_cons_self).elim
  | nil => exact stp (fun k => laws_eqExS.f.eq_2 ..) (ifp rfl (stp (fun k => laws_eqExS.l0.eq_2 ..) (ifn (by simp) (sm _))))
 | succ n ih =>
  intro l h
  have hl : l.length * 40 ≤ 140737488351232 := h.1
  refine stp (fun k => laws_eqExS.f.eq_2 ..) (ifp rfl ?_)
  refine same l (fun i k => laws_eqExS.l0 k l l i) ?_ ?_
  ·exact stp (fun k => laws_eqExS.l0.eq_2 ..) (ifn (by omega) (sm _))
  ·intro i x hx hk
   have hi : i < l.length := (List.getElem?_eq_some_iff.1 hx).1
   have hw := h.2 x (List.mem_of_getElem? hx)
   refine stp (fun k => laws_eqExS.l0.eq_2 ..) (ifp (by omega) (ifp (by omega) (ifp (by omega) ?_)))
   rw [show rd_T31 l (i : Int) = x from getD_some hx, up (by omega) (by omega : (i : Int) < (l.length : Int)) (by omega)]
   exact bnd (a := true) (ifp rfl (ifp rfl (bnd (ih x.f2 hw.2.2) (ifp rfl (sm _))))) (ifp rfl hk)
mutual
/-- how many nodes a tree has -/
def nodes : S31 → Nat
 | ⟨_, _, l⟩ => 1 + nodess l
def nodess : List S31 → Nat
 | [] => 0
 | x :: r => nodes x + nodess r
end
theorem nodes_pos (x : S31) : 1 ≤ nodes x := by
 obtain ⟨a, b, l⟩ := x
 rw [nodes]
 omega
theorem eta (x : S31) : (⟨x.f0, x.f1, x.f2⟩ : S31) = x := by
 obtain ⟨a, b, l⟩ := x
 rfl
mutual
/-- nothing stands too deep -/
def deepB : S31 → Int → Bool
 | ⟨_, _, l⟩, d => decide (d ≤ 40) && deepBs l (d + 1)
def deepBs : List S31 → Int → Bool
 | [], _ => true
 | x :: r, d => deepB x d && deepBs r d
end
theorem left_step (a b : Int) (l : List S31) (hl : l.length * 40 ≤ 140737488351232) (dp : Int) (hd0 : 0 ≤ dp) (hd1 : dp ≤ 40) (ih : ∀ x ∈ l, ∀ left : Int, 0 ≤ left → left ≤ 1048576 → ∃ v : Int, -1 ≤ v ∧ v ≤ 1048576 ∧ Ev (fun k => spec_l04Left.f k x.f0 x.f1 x.f2 left (dp + 1)) v ∧ (0 ≤ v ↔ (deepB x (dp + 1) = true ∧ ((nodes x : Nat) : Int) ≤ left)) ∧ (0 ≤ v → v = left - ((nodes x : Nat) : Int))) :
  ∀ (d i : Nat) (lf : Int), i + d = l.length → -1 ≤ lf → lf ≤ 1048576 → ∃ v : Int, -1 ≤ v ∧ v ≤ 1048576 ∧ Ev (fun k => spec_l04Left.l0 k lf dp (i : Int) a b l) v ∧ (0 ≤ v ↔ (deepBs (l.drop i) (dp + 1) = true ∧ ((nodess (l.drop i) : Nat) : Int) ≤ lf)) ∧ (0 ≤ v → v = lf - ((nodess (l.drop i) : Nat) : Int)) := by
 intro d
 induction d with
 | zero =>
  intro i lf hi hf0 hf1
  obtain rfl : i = l.length := by omega
  refine ⟨lf, hf0, hf1, stp (fun k => spec_l04Left.l0.eq_2 ..) (ifn (by omega) (sm _)), ?_, ?_⟩
  ·rw [List.drop_length, nodess, deepBs]
   simp
  ·rw [List.drop_length, nodess]
   omega
 | succ d ihd =>
  intro i lf hi hf0 hf1
  have hil : i < l.length := by omega
  have hx : l[i]? = some l[i] := List.getElem?_eq_getElem hil
  rw [List.drop_eq_getElem_cons hil, nodess, deepBs]
  have hp := nodes_pos l[i]
  by_cases hneg : lf ≥ 0
  ·obtain ⟨v, hv0, hv1, hv, hv2, hv3⟩ := ih l[i] (List.getElem_mem hil) lf hneg hf1
   obtain ⟨u, hu0, hu1, hu, hu2, hu3⟩ := ihd (i + 1) v (by omega) hv0 hv1
   refine ⟨u, hu0, hu1, stp (fun k => spec_l04Left.l0.eq_2 ..) (ifp (by omega) (ifp hneg (ifp (by omega) ?_))), ?_, ?_⟩
   ·rw [show rd_T31 l (i : Int) = l[i] from getD_some hx, up (by omega) (by omega : (i : Int) < (l.length : Int)) (by omega), w64 (x := dp + 1) (by omega) (by omega)]
    rw [show ((i + 1 : Nat) : Int) = (i : Int) + 1 by omega] at hu
    exact bnd hv hu
   ·rw [Bool.and_eq_true, hu2]
    constructor
    ·rintro ⟨h1, h2⟩
     have hv' := hv2.1 (by omega)
     have := hv3 (by omega)
     exact ⟨⟨hv'.1, h1⟩, by omega⟩
    ·rintro ⟨⟨h1, h2⟩, h3⟩
     have h4 := hv2.2 ⟨h1, by omega⟩
     have := hv3 h4
     exact ⟨h2, by omega⟩
   ·intro h
    have h1 := hu2.1 h
    have h2 := hv3 (by omega)
    have := hu3 h
    omega
  ·refine ⟨lf, hf0, hf1, stp (fun k => spec_l04Left.l0.eq_2 ..) (ifp (by omega) (ifn hneg (sm _))), ?_, ?_⟩
   ·constructor
    ·intro h
     omega
    ·rintro ⟨_, h⟩
     omega
   ·omega
theorem left_is (n : Nat) : ∀ (a b : Int) (l : List S31), HL n l → ∀ dp : Int, 0 ≤ dp → dp ≤ 100 → ∀ left : Int, 0 ≤ left → left ≤ 1048576 → ∃ v : Int, -1 ≤ v ∧ v ≤ 1048576 ∧ Ev (fun k => spec_l04Left.f k a b l left dp) v ∧ (0 ≤ v ↔ (deepB ⟨a, b, l⟩ dp = true ∧ ((nodes ⟨a, b, l⟩ : Nat) : Int) ≤ left)) ∧ (0 ≤ v → v = left - ((nodes ⟨a, b, l⟩ : Nat) : Int)) := by
 induction n with
 | zero =>
  intro a b l h dp hd0 hd1 left h0 h1
  by_cases hdp : dp > 40
  ·refine ⟨-1, by omega, by omega, stp (fun k => spec_l04Left.f.eq_2 ..) (ifp hdp (sm _)), ?_, by omega⟩
   rw [deepB, decide_eq_false (by omega)]
   simp
  ·obtain ⟨v, hv0, hv1, hev, h2, h3⟩ := left_step a b l h.1 dp hd0 (by omega) (fun x hx => (h.2 x hx).elim) l.length 0 (left - 1) (by omega) (by omega) (by omega)
   rw [List.drop_zero] at h2 h3
   refine ⟨v, hv0, hv1, stp (fun k => spec_l04Left.f.eq_2 ..) (ifn hdp ?_), ?_, ?_⟩
   ·rw [w64 (by omega) (by omega)]
    exact hev
   ·rw [nodes, deepB, decide_eq_true (by omega : dp ≤ 40), Bool.true_and, h2]
    constructor
    ·rintro ⟨q1, q2⟩; exact ⟨q1, by omega⟩
    ·rintro ⟨q1, q2⟩; exact ⟨q1, by omega⟩
   ·rw [nodes]
    omega
 | succ n ih =>
  intro a b l h dp hd0 hd1 left h0 h1
  by_cases hdp : dp > 40
  ·refine ⟨-1, by omega, by omega, stp (fun k => spec_l04Left.f.eq_2 ..) (ifp hdp (sm _)), ?_, by omega⟩
   rw [deepB, decide_eq_false (by omega)]
   simp
  ·obtain ⟨v, hv0, hv1, hev, h2, h3⟩ := left_step a b l h.1 dp hd0 (by omega) (fun x hx left q0 q1 => by
    have := ih x.f0 x.f1 x.f2 (h.2 x hx).2.2 (dp + 1) (by omega) (by omega) left q0 q1
    rwa [eta x] at this) l.length 0 (left - 1) (by omega) (by omega) (by omega)
   rw [List.drop_zero] at h2 h3
   refine ⟨v, hv0, hv1, stp (fun k => spec_l04Left.f.eq_2 ..) (ifn hdp ?_), ?_, ?_⟩
   ·rw [w64 (by omega) (by omega)]
    exact hev
   ·rw [nodes, deepB, decide_eq_true (by omega : dp ≤ 40), Bool.true_and, h2]
    constructor
    ·rintro ⟨q1, q2⟩; exact ⟨q1, by omega⟩
    ·rintro ⟨q1, q2⟩; exact ⟨q1, by omega⟩
   ·rw [nodes]
    omega
mutual
theorem count_is : ∀ (y : S31) (deep c : Int), 0 ≤ deep → deep ≤ 100 → 0 ≤ c → c ≤ 400 → (countE y deep c).1 = (rightE y && (deepB y deep && decide (c + ((nodes y : Nat) : Int) ≤ 400))) ∧ ((countE y deep c).1 = true → (countE y deep c).2 = c + ((nodes y : Nat) : Int))
 | ⟨kind, n, kids⟩, deep, c, d0, d1, h0, h1 => by
  rw [countE, rightE, nodes, deepB, w64 (x := c + 1) (by omega) (by omega), w64 (x := deep + 1) (by omega) (by omega)]
  by_cases t1 : c + 1 > 400
  ·rw [decide_eq_true t1, Bool.true_or, if_pos rfl]
   have : ¬ (c + ((1 + nodess kids : Nat) : Int) ≤ 400) := by omega
   rw [decide_eq_false this]
   exact ⟨by simp, by simp⟩
  ·rw [decide_eq_false t1, Bool.false_or]
   by_cases t2 : deep > 40
   ·rw [decide_eq_true t2, Bool.true_or, if_pos rfl, decide_eq_false (by omega : ¬ deep ≤ 40)]
    exact ⟨by simp, by simp⟩
   ·rw [decide_eq_false t2, Bool.false_or, decide_eq_true (by omega : deep ≤ 40)]
    cases hm : ((kids.length : Int) == kidsM kind) with
    | false => exact ⟨by simp, by simp⟩
    | true =>
     cases hn : numB kind n with
     | false => exact ⟨by simp, by simp⟩
     | true =>
      have hc := counts_is kids (deep + 1) (c + 1) (by omega) (by omega) (by omega) (by omega)
      simp only [Bool.not_true, Bool.or_self, Bool.true_and, Bool.false_eq_true, if_false]
      rw [show c + ((1 + nodess kids : Nat) : Int) = c + 1 + ((nodess kids : Nat) : Int) by omega]
      exact hc
theorem counts_is : ∀ (l : List S31) (deep c : Int), 0 ≤ deep → deep ≤ 100 → 0 ≤ c → c ≤ 400 → (countEs l deep c).1 = (rightEs l && (deepBs l deep && decide (c + ((nodess l : Nat) : Int) ≤ 400))) ∧ ((countEs l deep c).1 = true → (countEs l deep c).2 = c + ((nodess l : Nat) : Int))
 | [], deep, c, d0, d1, h0, h1 => by
  rw [countEs, rightEs, nodess, deepBs, decide_eq_true (by omega)]
  exact ⟨rfl, fun _ => by simp⟩
 | x :: r, deep, c, d0, d1, h0, h1 => by
  have hx := count_is x deep c d0 d1 h0 h1
  rw [countEs, rightEs, nodess, deepBs]
  generalize countE x deep c = q at hx
  obtain ⟨q1, q2⟩ := q
  simp only at hx
  obtain ⟨e1, e2⟩ := hx
  cases q1 with
  | false =>
   refine ⟨?_, by simp⟩
   simp only
   cases hb : rightE x with
   | false => simp
   | true =>
    cases hd : deepB x deep with
    | false => simp
    | true =>
     rw [hb, hd, Bool.true_and, Bool.true_and] at e1
     have := of_decide_eq_false e1.symm
     rw [decide_eq_false (by omega)]
     simp
  | true =>
   have e3 := e2 rfl
   subst e3
   have e4 := Bool.and_eq_true_iff.1 e1.symm
   have e6 := Bool.and_eq_true_iff.1 e4.2
   have e5 := of_decide_eq_true e6.2
   have hr := counts_is r deep (c + ((nodes x : Nat) : Int)) d0 d1 (by omega) e5
   rw [e4.1, e6.1, Bool.true_and, Bool.true_and]
   rw [show c + ((nodes x + nodess r : Nat) : Int) = c + ((nodes x : Nat) : Int) + ((nodess r : Nat) : Int) by omega]
   exact hr
end
def exB (a b : Int) (l : List S31) : Bool := rightE ⟨a, b, l⟩ && (deepB ⟨a, b, l⟩ 1 && decide (((nodes ⟨a, b, l⟩ : Nat) : Int) ≤ 400))
theorem exOK_same (n : Nat) (a b : Int) (l : List S31) (h : HL n l) : Ev (fun k => spec_ExOK.f k a b l) (exB a b l) := by
 unfold exB
 obtain ⟨v, _, _, hv, e1, _⟩ := left_is n a b l h 1 (by omega) (by omega) 400 (by omega) (by omega)
 refine bnd hv ?_
 by_cases hs : v ≥ 0
 ·have := e1.1 hs
  rw [this.1, decide_eq_true this.2, Bool.and_true, Bool.and_true]
  exact ifp hs (sm _)
 ·cases hd : deepB ⟨a, b, l⟩ 1 with
  | false =>
   rw [Bool.false_and, Bool.and_false]
   exact ifn hs (sm _)
  | true =>
   rw [decide_eq_false (fun x => hs (e1.2 ⟨hd, x⟩)), Bool.and_false, Bool.and_false]
   exact ifn hs (sm _)
theorem isEx_is (a b : Int) (l : List S31) : impl_isEx.f a b l = some (exB a b l) := by
 unfold impl_isEx.f exB
 rw [(count_is ⟨a, b, l⟩ 1 0 (by omega) (by omega) (by omega) (by omega)).1]
 simp
def HX (x : S31) : Prop := ∃ n, HN n x
theorem HN_le {n m : Nat} (h : n ≤ m) : ∀ x, HN n x → HN m x := by
 induction n generalizing m with
 | zero => exact fun x hx => hx.elim
 | succ n ih =>
  intro x hx
  cases m with
  | zero => omega
  | succ m => exact ⟨hx.1, hx.2.1, hx.2.2.1, fun y hy => ih (by omega) y (hx.2.2.2 y hy)⟩
theorem HL_of {l : List S31} (hl : l.length * 40 ≤ 140737488351232) (h : ∀ x ∈ l, HX x) : ∃ n, HL n l := by
 have : ∀ l : List S31, (∀ x ∈ l, HX x) → ∃ n, ∀ x ∈ l, HN n x := by
  intro l
  induction l with
  | nil => exact fun _ => ⟨0, fun x hx => by cases hx⟩
  | cons a r ih =>
   intro h
   obtain ⟨n, hn⟩ := ih fun x hx => h x (List.mem_cons_of_mem _ hx)
   obtain ⟨m, hm⟩ := h a List.mem_cons_self
   refine ⟨n + m, fun x hx => ?_⟩
   rcases List.mem_cons.1 hx with rfl | hx
   ·exact HN_le (by omega) _ hm
   ·exact HN_le (by omega) _ (hn x hx)
 obtain ⟨n, hn⟩ := this l h
 exact ⟨n, hl, hn⟩
theorem HX_mk {a b : Int} {l : List S31} (ha : Reads.WFI a) (hb : Reads.WFI b) (hl : l.length * 40 ≤ 140737488351232) (h : ∀ x ∈ l, HX x) : HX ⟨a, b, l⟩ := by
 obtain ⟨n, hn⟩ := HL_of hl h
 exact ⟨n + 1, ha, hb, hn⟩
theorem HX_kids {x : S31} (h : HX x) : ∃ n, HL n x.f2 := by
 obtain ⟨n, h⟩ := h
 cases n with
 | zero => exact h.elim
 | succ n => exact ⟨n, h.2.2⟩
theorem HL_mem {n : Nat} {l : List S31} (h : HL n l) {x : S31} (hx : x ∈ l) : HX x := ⟨n, h.2 x hx⟩
theorem wfi_small {x : Int} (h0 : -1000000 ≤ x) (h1 : x ≤ 1000000) : Reads.WFI x := (⟨by omega, by omega⟩ : -9223372036854775808 ≤ x ∧ x ≤ 9223372036854775807)
def exk (k : Int) (l : List S31) : S31 := ⟨k, 0, l⟩
def exc (n : Int) : S31 := ⟨2, n, []⟩
theorem HX_exk {k : Int} {l : List S31} (h0 : 0 ≤ k) (h1 : k ≤ 100) (hl : l.length ≤ 100) (h : ∀ x ∈ l, HX x) : HX (exk k l) := HX_mk (wfi_small (by omega) (by omega)) (wfi_small (by omega) (by omega)) (by omega) h
theorem HX_exk1 {k : Int} {x : S31} (h0 : 0 ≤ k) (h1 : k ≤ 100) (hx : HX x) : HX (exk k [x]) := HX_exk h0 h1 (by simp) (by intro y hy; rw [List.mem_singleton] at hy; subst hy; exact hx)
theorem HX_exk2 {k : Int} {x y : S31} (h0 : 0 ≤ k) (h1 : k ≤ 100) (hx : HX x) (hy : HX y) : HX (exk k [x, y]) := HX_exk h0 h1 (by simp) (by
 intro z hz
 rcases List.mem_cons.1 hz with rfl | hz
 ·exact hx
 ·rw [List.mem_singleton] at hz; subst hz; exact hy)
theorem HX_exk3 {k : Int} {x y z : S31} (h0 : 0 ≤ k) (h1 : k ≤ 100) (hx : HX x) (hy : HX y) (hz : HX z) : HX (exk k [x, y, z]) := HX_exk h0 h1 (by simp) (by
 intro u hu
 rcases List.mem_cons.1 hu with rfl | hu
 ·exact hx
 ·rcases List.mem_cons.1 hu with rfl | hu
  ·exact hy
  ·rw [List.mem_singleton] at hu; subst hu; exact hz)
theorem HX_exc {n : Int} (h0 : -1000000 ≤ n) (h1 : n ≤ 1000000) : HX (exc n) := HX_mk (wfi_small (by omega) (by omega)) (wfi_small h0 h1) (by simp) (by intro x hx; cases hx)
def exX (x : S31) : Bool := exB x.f0 x.f1 x.f2
theorem okX {x : S31} (h : HX x) : Ev (fun k => spec_ExOK.f k x.f0 x.f1 x.f2) (exX x) := by
 obtain ⟨n, hn⟩ := HX_kids h
 exact exOK_same n x.f0 x.f1 x.f2 hn
theorem exI_X (x : S31) : exI x = exX x := by
 have h := isEx_is x.f0 x.f1 x.f2
 unfold impl_isEx.f at h
 rw [eta] at h
 exact Option.some.inj h
theorem nodes_X {x : S31} (h : exX x = true) : nodes x ≤ 400 := by
 unfold exX exB at h
 rw [Bool.and_eq_true, Bool.and_eq_true, decide_eq_true_eq, eta] at h
 omega
mutual
theorem nT_nodes : ∀ x : S31, nT x = nodes x
 | ⟨_, _, l⟩ => by rw [nT, nodes, nL_nodess l]
theorem nL_nodess : ∀ l : List S31, nL l = nodess l
 | [] => by rw [nL, nodess]
 | x :: r => by rw [nL, nodess, nT_nodes x, nL_nodess r]
end
theorem heldS_is (n : Nat) : ∀ (l : List S31) (a : Int), nL l ≤ n → l.length * 40 ≤ 140737488351232 → 0 ≤ a → a + 2 * (nL l : Int) ≤ 4611686018427387904 → (∀ x ∈ l, HX x) → Ev (fun k => laws_heldExS.f k (mkL l a) a) (a + 2 * (nL l : Int)) := by
 induction n with
 | zero =>
  intro l a hn hl h0 h1 hx
  cases l with
  | cons x r => rw [nL, nT_eq] at hn; omega
  | nil =>
   rw [mkL, nL]
   refine stp (fun k => laws_heldExS.f.eq_2 ..) (stp (fun k => laws_heldExS.l0.eq_2 ..) (ifn (by simp) ?_))
   rw [show a + 2 * ((0 : Nat) : Int) = a by omega]
   exact sm _
 | succ n ih =>
  intro l a hn hl h0 h1 hx
  have hlen := mkL_length l a
  have key : ∀ (d i : Nat), i + d = l.length → Ev (fun k => laws_heldExS.l0 k (mkL l a) (a + 2 * (nL (l.take i) : Int)) (i : Int)) (a + 2 * (nL l : Int)) := by
   intro d
   induction d with
   | zero =>
    intro i hi
    refine stp (fun k => laws_heldExS.l0.eq_2 ..) (ifn (by omega) ?_)
    rw [List.take_of_length_le (by omega)]
    exact sm _
   | succ d ihd =>
    intro i hi
    have hil : i < l.length := by omega
    have hxi : l[i]? = some l[i] := List.getElem?_eq_getElem hil
    have hm := mkL_at l a i l[i] hxi
    have ht := nL_take l i l[i] hxi
    have hle := nL_take_le l (i + 1)
    have hk := nT_eq l[i]
    have hw := hx l[i] (List.getElem_mem hil)
    obtain ⟨q, hq⟩ := HX_kids hw
    have hrest := ihd (i + 1) (by omega)
    rw [show ((i + 1 : Nat) : Int) = (i : Int) + 1 by omega, ht] at hrest
    have hkid := ih l[i].f2 (a + 2 * (nL (l.take i) : Int) + 2) (by omega) hq.1 (by omega) (by omega) (fun x hx => HL_mem hq hx)
    have hrd : rd_T31 (mkL l a) (i : Int) = ⟨a + 2 * (nL (l.take i) : Int), a + 2 * (nL (l.take i) : Int) + 1, mkL l[i].f2 (a + 2 * (nL (l.take i) : Int) + 2)⟩ := by
     rw [← mkT_eq]
     exact getD_some hm
    refine stp (fun k => laws_heldExS.l0.eq_2 ..) (ifp (by omega) (ifp (by omega) ?_))
    rw [hrd]
    refine ifp rfl (ifp (by rw [w64 (by omega) (by omega)]) ?_)
    rw [w64 (x := a + 2 * (nL (l.take i) : Int) + 1) (by omega) (by omega), w64 (by omega) (by omega), up (by omega) (by omega : (i : Int) < (l.length : Int)) (by omega), show a + 2 * (nL (l.take i) : Int) + 1 + 1 = a + 2 * (nL (l.take i) : Int) + 2 by omega]
    refine bnd hkid (ifn (by omega) ?_)
    rw [show a + 2 * (nL (l.take i) : Int) + 2 + 2 * (nL l[i].f2 : Int) = a + 2 * ((nL (l.take i) + nT l[i] : Nat) : Int) by omega]
    exact hrest
  have := key l.length 0 (by omega)
  rw [List.take_zero, nL] at this
  refine stp (fun k => laws_heldExS.f.eq_2 ..) ?_
  rw [show a + 2 * ((0 : Nat) : Int) = a by omega] at this
  exact this
theorem appL {α ρ : Type} (xs : List α) (L : Int → List α → Nat → Option ρ) (r : ρ)
  (hend : Ev (L (xs.length : Int) xs) r)
  (hstep : ∀ (i : Nat) (x : α), xs[i]? = some x → Ev (L ((i : Int) + 1) (xs.take i ++ [x])) r → Ev (L (i : Int) (xs.take i)) r) : Ev (L 0 []) r := by
 have key : ∀ (d i : Nat), i + d = xs.length → Ev (L (i : Int) (xs.take i)) r := by
  intro d
  induction d with
  | zero =>
   intro i hd
   obtain rfl : i = xs.length := by omega
   rw [List.take_length]
   exact hend
  | succ d ih =>
   intro i hd
   have hi : i < xs.length := by omega
   refine hstep i xs[i] (List.getElem?_eq_getElem hi) ?_
   have := ih (i + 1) (by omega)
   rw [List.take_succ_eq_append_getElem hi] at this
   rwa [show ((i + 1 : Nat) : Int) = (i : Int) + 1 by omega] at this
 have := key xs.length 0 (by omega)
 rwa [List.take_zero] at this
theorem copyN (n : Nat) : ∀ (a b : Int) (l : List S31), HL n l → Ev (fun k => spec_l05Copy.f k a b l) (a, b, l) := by
 induction n with
 | zero =>
  intro a b l h
  cases l with
  | cons x r => exact (h.2 x List.mem_cons_self).elim
  | nil => exact stp (fun k => spec_l05Copy.f.eq_2 ..) (stp (fun k => spec_l05Copy.l0.eq_2 ..) (ifn (by simp) (sm _)))
 | succ n ih =>
  intro a b l h
  have hl : l.length * 40 ≤ 140737488351232 := h.1
  refine stp (fun k => spec_l05Copy.f.eq_2 ..) (appL l (fun i out k => spec_l05Copy.l0 k i a b l a b out) (a, b, l) ?_ ?_)
  ·exact stp (fun k => spec_l05Copy.l0.eq_2 ..) (ifn (by omega) (sm _))
  ·intro i x hx hk
   have hi : i < l.length := (List.getElem?_eq_some_iff.1 hx).1
   have hw := h.2 x (List.mem_of_getElem? hx)
   refine stp (fun k => spec_l05Copy.l0.eq_2 ..) (ifp (by omega) (ifp (by omega) ?_))
   rw [show rd_T31 l (i : Int) = x from getD_some hx, up (by omega) (by omega : (i : Int) < (l.length : Int)) (by omega)]
   refine bnd (ih x.f0 x.f1 x.f2 hw.2.2) (ifp (by rw [List.length_take]; omega) ?_)
   show Ev (fun k => spec_l05Copy.l0 k ((i : Int) + 1) a b l a b (l.take i ++ [⟨x.f0, x.f1, x.f2⟩])) (a, b, l)
   rw [eta]
   exact hk
theorem copyX {x : S31} (h : HX x) : Ev (fun k => spec_l05Copy.f k x.f0 x.f1 x.f2) (x.f0, x.f1, x.f2) := by
 obtain ⟨n, hn⟩ := HX_kids h
 exact copyN n _ _ _ hn
theorem cloneN (n : Nat) : ∀ (a b : Int) (l : List S31), HL n l → Ev (fun k => impl_cloneEx.f k a b l) (a, b, l) := by
 induction n with
 | zero =>
  intro a b l h
  cases l with
  | cons x r => exact (h.2 x List.mem_cons_self).elim
  | nil => exact stp (fun k => impl_cloneEx.f.eq_2 ..) (stp (fun k => impl_cloneEx.l0.eq_2 ..) (ifn (by simp) (sm _)))
 | succ n ih =>
  intro a b l h
  have hl : l.length * 40 ≤ 140737488351232 := h.1
  refine stp (fun k => impl_cloneEx.f.eq_2 ..) (appL l (fun i out k => impl_cloneEx.l0 k out l (l.length : Int) i a b l) (a, b, l) ?_ ?_)
  ·exact stp (fun k => impl_cloneEx.l0.eq_2 ..) (ifn (by omega) (sm _))
  ·intro i x hx hk
   have hi : i < l.length := (List.getElem?_eq_some_iff.1 hx).1
   have hw := h.2 x (List.mem_of_getElem? hx)
   refine stp (fun k => impl_cloneEx.l0.eq_2 ..) (ifp (by omega) (ifp (by omega) (ifp (by omega) ?_)))
   rw [show rd_T31 l (i : Int) = x from getD_some hx, up (by omega) (by omega : (i : Int) < (l.length : Int)) (by omega)]
   refine bnd (ih x.f0 x.f1 x.f2 hw.2.2) (ifp (by rw [List.length_take]; omega) ?_)
   show Ev (fun k => impl_cloneEx.l0 k (l.take i ++ [⟨x.f0, x.f1, x.f2⟩]) l (l.length : Int) ((i : Int) + 1) a b l) (a, b, l)
   rw [eta]
   exact hk
theorem cloneX {x : S31} (h : HX x) : Ev (fun k => impl_cloneEx.f k x.f0 x.f1 x.f2) (x.f0, x.f1, x.f2) := by
 obtain ⟨n, hn⟩ := HX_kids h
 exact cloneN n _ _ _ hn
theorem fits_is (l : List S31) (hl : l.length * 40 ≤ 140737488351232) (h : ∀ x ∈ l, HX x) : Ev (fun k => spec_l05Fits.f k l) (l.all exX) := by
 refine allL l exX (fun i k => spec_l05Fits.l0 k l i) ?_ ?_
 ·exact stp (fun k => spec_l05Fits.l0.eq_2 ..) (ifn (by omega) (sm _))
 ·intro i x r hx hk
  have hi : i < l.length := (List.getElem?_eq_some_iff.1 hx).1
  refine stp (fun k => spec_l05Fits.l0.eq_2 ..) (ifp (by omega) (ifp (by omega) ?_))
  rw [show rd_T31 l (i : Int) = x from getD_some hx, up (by omega) (by omega : (i : Int) < (l.length : Int)) (by omega)]
  refine bnd (okX (h x (List.mem_of_getElem? hx))) ?_
  cases hb : exX x with
  | true => rw [Bool.true_and]; exact ifp rfl hk
  | false => rw [Bool.false_and]; exact ifn (by simp) (sm _)
theorem areX (l : List S31) : impl_areExs.f l = some (l.all exX) := by
 unfold impl_areExs.f
 rw [show exI = exX from funext exI_X]
theorem HX_lessAcc : ∀ (a b : List S31) (e : S31), (∀ x ∈ a, HX x) → (∀ x ∈ b, HX x) → HX e → HX (lessAcc a b e)
 | [], b, e, _, _, he => by rw [lessAcc]; exact he
 | x :: r, [], e, _, _, he => by rw [lessAcc]; exact he
 | x :: r, y :: s, e, ha, hb, he => by
  rw [lessAcc]
  have hx := ha x List.mem_cons_self
  have hy := hb y List.mem_cons_self
  exact HX_lessAcc r s _ (fun z hz => ha z (List.mem_cons_of_mem _ hz)) (fun z hz => hb z (List.mem_cons_of_mem _ hz)) (HX_exk2 (by omega) (by omega) (HX_exk2 (by omega) (by omega) (HX_exk1 (by omega) (by omega) hx) hy) (HX_exk2 (by omega) (by omega) (HX_exk1 (by omega) (by omega) (HX_exk2 (by omega) (by omega) hx hy)) he))
theorem copies : ∀ (l : List S31), (∀ x ∈ l, HX x) → ∃ K, ∀ n, K ≤ n → ∀ x ∈ l, CP n x
 | [], _ => ⟨0, fun _ _ x hx => by cases hx⟩
 | y :: r, h => by
  obtain ⟨K, hK⟩ := copies r (fun x hx => h x (List.mem_cons_of_mem _ hx))
  obtain ⟨M, hM⟩ := copyX (h y List.mem_cons_self)
  refine ⟨K + M, fun n hn x hx => ?_⟩
  rcases List.mem_cons.1 hx with rfl | hx
  ·exact hM n (by omega)
  ·exact hK n (by omega) x hx
theorem late {α : Type} {f g : Nat → Option α} {r : α} (h : ∃ K, ∀ n, K ≤ n → f n = g n) (k : Ev g r) : Ev f r := by
 obtain ⟨K, hK⟩ := h
 obtain ⟨M, hM⟩ := k
 exact ⟨K + M, fun n hn => (hK n (by omega)).trans (hM n (by omega))⟩
theorem HX_carry {x y c : S31} (hx : HX x) (hy : HX y) (hc : HX c) : HX ⟨5, 0, [⟨4, 0, [x, y]⟩, ⟨4, 0, [c, ⟨6, 0, [x, y]⟩]⟩]⟩ := HX_exk2 (by omega) (by omega) (HX_exk2 (by omega) (by omega) hx hy) (HX_exk2 (by omega) (by omega) hc (HX_exk2 (by omega) (by omega) hx hy))
theorem rcop_is : ∀ (a b : List S31) (c : S31), (∀ x ∈ a, HX x) → (∀ x ∈ b, HX x) → HX c → ∃ K, ∀ n, K ≤ n → rcopF n a b c
 | [], b, c, _, _, _ => ⟨0, fun _ _ => by cases b <;> simp [rcopF]⟩
 | x :: a, [], c, _, _, _ => ⟨0, fun _ _ => by simp [rcopF]⟩
 | x :: a, y :: b, c, ha, hb, hc => by
  have hx := ha x List.mem_cons_self
  have hy := hb y List.mem_cons_self
  obtain ⟨K, hK⟩ := rcop_is a b _ (fun z hz => ha z (List.mem_cons_of_mem _ hz)) (fun z hz => hb z (List.mem_cons_of_mem _ hz)) (HX_carry hx hy hc)
  obtain ⟨M, hM⟩ := copies [x, y, c, ⟨6, 0, [x, y]⟩] (by
   intro z hz
   simp only [List.mem_cons, List.not_mem_nil, or_false] at hz
   rcases hz with rfl | rfl | rfl | rfl
   ·exact hx
   ·exact hy
   ·exact hc
   ·exact HX_exk2 (by omega) (by omega) hx hy)
  refine ⟨K + M, fun n hn => ?_⟩
  rw [rcopF]
  have q := hM n (by omega)
  exact ⟨⟨q _ (by simp), q _ (by simp), q _ (by simp), q _ (by simp)⟩, hK n (by omega)⟩
theorem cop_is (a b : List S31) (ha : ∀ x ∈ a, HX x) (hb : ∀ x ∈ b, HX x) : ∃ K, ∀ n, K ≤ n → Cop n a b := by
 have h0 : HX (⟨2, 0, []⟩ : S31) := HX_exc (n := 0) (by omega) (by omega)
 obtain ⟨K, hK⟩ := copies (a ++ b) (fun x hx => (List.mem_append.1 hx).elim (ha x) (hb x))
 obtain ⟨M, hM⟩ := rcop_is a b ⟨2, 0, []⟩ ha hb h0
 obtain ⟨L, hL⟩ := copyX (HX_lessAcc a b (exc 0) ha hb h0)
 exact ⟨K + M + L, fun n hn => ⟨fun x hx => hK n (by omega) x (List.mem_append.2 hx), hM n (by omega), hL n (by omega)⟩⟩
theorem rnd_ok (kind : Int) (less : S31) (hl : HX less) : ∀ (a b : List S31) (c : S31) (out : List S31), a.length = b.length → (∀ x ∈ a, HX x) → (∀ x ∈ b, HX x) → HX c → (∀ x ∈ out, HX x) → (rnd kind less a b c out).length = out.length + a.length ∧ ∀ x ∈ rnd kind less a b c out, HX x
 | [], b, c, out, _, _, _, _, ho => by rw [rnd_nil]; exact ⟨rfl, ho⟩
 | x :: a, [], c, out, h, _, _, _, _ => by simp at h
 | x :: a, y :: b, c, out, h, ha, hb, hc, ho => by
  have hx := ha x List.mem_cons_self
  have hy := hb y List.mem_cons_self
  have hh : a.length = b.length := by simpa using h
  have ha' : ∀ z ∈ a, HX z := fun z hz => ha z (List.mem_cons_of_mem _ hz)
  have hb' : ∀ z ∈ b, HX z := fun z hz => hb z (List.mem_cons_of_mem _ hz)
  have key : ∀ (c' z : S31), HX c' → HX z → (rnd kind less a b c' (out ++ [z])).length = out.length + (x :: a).length ∧ ∀ w ∈ rnd kind less a b c' (out ++ [z]), HX w := fun c' z h1 h2 => by
   have q := rnd_ok kind less hl a b c' (out ++ [z]) hh ha' hb' h1 (by
    intro w hw
    rcases List.mem_append.1 hw with hw | hw
    ·exact ho w hw
    ·rw [List.mem_singleton.1 hw]
     exact h2)
   refine ⟨?_, q.2⟩
   rw [q.1, List.length_append, List.length_cons, List.length_cons, List.length_nil]
   omega
  rw [rnd]
  by_cases h3 : kind = 3
  ·rw [if_pos h3]
   exact key _ _ (HX_carry hx hy hc) (HX_exk2 (by omega) (by omega) (HX_exk2 (by omega) (by omega) hx hy) hc)
  ·rw [if_neg h3]
   by_cases h4 : kind = 4
   ·rw [if_pos h4]
    exact key _ _ hc (HX_exk2 (by omega) (by omega) hx hy)
   ·rw [if_neg h4]
    exact key _ _ hc (HX_exk3 (by omega) (by omega) hl hx hy)
theorem bit_tab : ((List.range 64).all fun m => (List.range 6).all fun i => decide (0 ≤ Go.bits .and .i64 (shr .i64 (m : Int) (i : Int)) 1) && decide (Go.bits .and .i64 (shr .i64 (m : Int) (i : Int)) 1 ≤ 1)) = true := by kernel_rfl
theorem bit_is (m : Int) (i : Nat) (h0 : 0 ≤ m) (h1 : m ≤ 63) (hi : i < 6) : 0 ≤ Go.bits .and .i64 (shr .i64 m (i : Int)) 1 ∧ Go.bits .and .i64 (shr .i64 m (i : Int)) 1 ≤ 1 := by
 obtain ⟨q, rfl⟩ : ∃ q : Nat, m = q := ⟨m.toNat, by omega⟩
 have h := List.all_eq_true.1 (List.all_eq_true.1 bit_tab q (List.mem_range.2 (by omega))) i (List.mem_range.2 hi)
 rw [Bool.and_eq_true, decide_eq_true_eq, decide_eq_true_eq] at h
 exact h
theorem pow_le (n : Nat) (h1 : 1 ≤ n) (h6 : n ≤ 6) : wrap64 (wrap64 (2 ^ (n : Int).toNat) - 1) ≤ 63 ∧ wrap64 ((12 : Int) / (n : Int) - 1) ≤ 11 := by
 obtain rfl | rfl | rfl | rfl | rfl | rfl : n = 1 ∨ n = 2 ∨ n = 3 ∨ n = 4 ∨ n = 5 ∨ n = 6 := by omega
 all_goals exact of_decide_eq_true (by kernel_rfl)
theorem bits_is (n : Nat) (h1 : 1 ≤ n) (h6 : n ≤ 6) : ∀ (f : Nat) (kind num : Int) (kids : List S81), Wd.nodes ⟨kind, num, kids⟩ ≤ f → Wd.rightB n ⟨kind, num, kids⟩ = true → ∃ r : List S31, wbitsF n f kind num kids = some r ∧ Ev (fun k => sbitsF k n f kind num kids) r ∧ r.length = n ∧ ∀ x ∈ r, HX x := by
 intro f
 induction f with
 | zero =>
  intro kind num kids hn
  have := Wd.nodes_pos ⟨kind, num, kids⟩
  omega
 | succ f ih =>
  intro kind num kids hn hr
  obtain ⟨p1, p2⟩ := pow_le n h1 h6
  rw [Wd.rightB, okW] at hr
  by_cases k1 : kind = 1
  ·rw [if_pos k1] at hr
   simp only [Bool.and_eq_true, decide_eq_true_eq] at hr
   refine ⟨constB num n, by rw [wbitsF, if_pos k1], evc (fun k => sbitsF.eq_2 ..) (ifp k1 (sm _)), by simp [constB], ?_⟩
   intro x hx
   obtain ⟨i, hi, rfl⟩ := List.mem_map.1 hx
   have hi := List.mem_range.1 hi
   have hb := bit_is num i hr.1.1 (by omega) (by omega)
   exact HX_exc (by omega) (by omega)
  rw [if_neg k1] at hr
  by_cases k2 : kind = 2
  ·rw [if_pos k2] at hr
   simp only [Bool.and_eq_true, decide_eq_true_eq] at hr
   have h0 : 0 ≤ num ∧ num ≤ 100 := ⟨hr.1.1, by omega⟩
   refine ⟨varB num n n, by rw [wbitsF, if_neg k1, if_pos k2, if_pos h0], evc (fun k => sbitsF.eq_2 ..) (ifn k1 (ifp k2 (ifp h0 (sm _)))), by simp [varB], ?_⟩
   intro x hx
   obtain ⟨i, hi, rfl⟩ := List.mem_map.1 hx
   have hi := List.mem_range.1 hi
   have q0 : 0 ≤ num * n := Int.mul_nonneg h0.1 (by omega)
   have q1 : num * n ≤ 100 * 6 := Int.mul_le_mul h0.2 (by omega) (by omega) (by omega)
   exact HX_mk (wfi_small (by omega) (by omega)) (wfi_small (by omega) (by omega)) (by simp) (by intro y hy; cases hy)
  rw [if_neg k2] at hr
  have h35 : 3 ≤ kind ∧ kind ≤ 5 ∧ kids.length = 2 ∧ Wd.rights n kids = true := by
   by_cases k3 : kind = 3
   ·rw [if_pos k3] at hr
    simp only [Bool.and_eq_true, beq_iff_eq] at hr
    exact ⟨by omega, by omega, by omega, hr.2.2⟩
   rw [if_neg k3] at hr
   by_cases k4 : kind = 4
   ·rw [if_pos k4] at hr
    simp only [Bool.and_eq_true, beq_iff_eq] at hr
    exact ⟨by omega, by omega, by omega, hr.2.2⟩
   rw [if_neg k4] at hr
   by_cases k5 : kind = 5
   ·rw [if_pos k5] at hr
    simp only [Bool.and_eq_true, beq_iff_eq] at hr
    exact ⟨by omega, by omega, by omega, hr.2.2⟩
   rw [if_neg k5] at hr
   exact absurd hr (by simp)
  obtain ⟨k3, k5, hlen, hrs⟩ := h35
  obtain ⟨x, y, rfl⟩ : ∃ x y, kids = [x, y] := by
   match kids, hlen with
   | [x, y], _ => exact ⟨x, y, rfl⟩
  rw [Wd.rights, Wd.rights, Wd.rights, Bool.and_true, Bool.and_eq_true] at hrs
  rw [Wd.nodes, Wd.nodess, Wd.nodess, Wd.nodess] at hn
  have px := Wd.nodes_pos x
  have py := Wd.nodes_pos y
  obtain ⟨a, a1, a2, a3, a4⟩ := ih x.f0 x.f1 x.f2 (by rw [Wd.eta]; omega) (by rw [Wd.eta]; exact hrs.1)
  obtain ⟨b, b1, b2, b3, b4⟩ := ih y.f0 y.f1 y.f2 (by rw [Wd.eta]; omega) (by rw [Wd.eta]; exact hrs.2)
  have h0 : HX (⟨2, 0, []⟩ : S31) := HX_exc (n := 0) (by omega) (by omega)
  have hl : HX (lessE a b) := HX_lessAcc a b (exc 0) a4 b4 h0
  obtain ⟨r1, r2⟩ := rnd_ok kind (lessE a b) hl a b ⟨2, 0, []⟩ [] (by omega) a4 b4 h0 (by intro z hz; cases hz)
  obtain ⟨K, hK⟩ := cop_is a b a4 b4
  refine ⟨rnd kind (lessE a b) a b ⟨2, 0, []⟩ [], ?_, ?_, by rw [r1, a3]; simp, r2⟩
  ·rw [wbitsF, if_neg k1, if_neg k2, if_pos ⟨k3, k5⟩, twoKids, a1]
   show (wbitsF n f y.f0 y.f1 y.f2).bind _ = _
   rw [b1]
   exact if_pos ⟨a3, b3⟩
  ·refine evc (fun k => sbitsF.eq_2 ..) (ifn k1 (ifn k2 (ifp ⟨k3, k5⟩ ?_)))
   refine bnd a2 (bnd b2 ?_)
   exact late ⟨K, fun m hm => if_pos ⟨⟨a3, b3⟩, hK m hm⟩⟩ (sm _)
theorem clone_is : ∀ (l out : List S31), (∀ x ∈ l, HX x) → out.length + l.length ≤ 1000 → Ev (fun k => cloneL k l out) (out ++ l)
 | [], out, _, _ => by
  refine evc (fun k => cloneL.eq_1 ..) ?_
  rw [List.append_nil]
  exact sm _
 | x :: r, out, h, hl => by
  rw [List.length_cons] at hl
  refine evc (fun k => cloneL.eq_2 ..) (bnd (cloneX (h x List.mem_cons_self)) (ifp (by omega) ?_))
  have q := clone_is r (out ++ [⟨x.f0, x.f1, x.f2⟩]) (fun y hy => h y (List.mem_cons_of_mem _ hy)) (by rw [List.length_append]; simp; omega)
  rw [eta, List.append_assoc] at q
  show Ev (fun k => cloneL k r (out ++ [⟨x.f0, x.f1, x.f2⟩])) (out ++ x :: r)
  rw [eta]
  exact q
theorem nL_all : ∀ (l : List S31), l.all exX = true → nL l ≤ 400 * l.length
 | [], _ => by rw [nL]; omega
 | x :: r, h => by
  rw [List.all_cons, Bool.and_eq_true] at h
  have h1 := nodes_X h.1
  have h2 := nL_all r h.2
  rw [nL, nT_nodes, List.length_cons]
  omega
theorem both (m : Nat) (a0 a1 : Int) (l : List S81) (n : Int) (h0 : Reads.WFI a0) (h1 : Reads.WFI a1) (h : Wd.HL m l) : ∃ (r : List S31) (c : Int), Ev (fun k => spec_WordBits.f k a0 a1 l n) (r, c) ∧ Ev (fun k => impl_WordBits.f k a0 a1 l n) (r, c) ∧ (∀ x ∈ r, HX x) ∧ r.length ≤ 6 ∧ nL r ≤ 2400 := by
 have s1 := Wd.wordOK_same m a0 a1 l n h0 h1 h
 have t1 := Wd.isWord_is a0 a1 l n
 cases hw : Wd.wordB a0 a1 l n with
 | false =>
  rw [hw] at s1 t1
  exact ⟨[], 1, evc (fun k => spec_WordBits.f.eq_1 ..) (bnd s1 (ifn (by simp) (sm _))), evc (fun k => impl_WordBits.f.eq_1 ..) (bnd0 t1 (ifn (by simp) (sm _))), (by intro x hx; cases hx), Nat.zero_le _, by rw [nL]; omega⟩
 | true =>
  rw [hw] at s1 t1
  unfold Wd.wordB at hw
  simp only [Bool.and_eq_true, decide_eq_true_eq] at hw
  obtain ⟨⟨n1, n6⟩, hr, hd⟩ := hw
  obtain ⟨q, rfl⟩ : ∃ q : Nat, n = q := ⟨n.toNat, by omega⟩
  obtain ⟨r, r1, r2, r3, r4⟩ := bits_is q (by omega) (by omega) 10 a0 a1 l (by omega) hr
  have hb : (0 : Int) ≤ (q : Int) ∧ (q : Int) ≤ 6 := by omega
  have hfit := fits_is r (by omega) r4
  have hare := areX r
  cases hx : r.all exX with
  | true =>
   rw [hx] at hfit hare
   refine ⟨r, 0, evc (fun k => spec_WordBits.f.eq_1 ..) (bnd s1 (ifp rfl (ifp hb (bnd ?_ (bnd hfit (ifp rfl (sm _))))))), evc (fun k => impl_WordBits.f.eq_1 ..) (bnd0 t1 (ifp rfl (ifp hb (bnd0 (a := r) ?_ ?_)))), r4, by omega, ?_⟩
   ·rw [Int.toNat_natCast]; exact r2
   ·rw [Int.toNat_natCast]; exact r1
   ·refine evc (fun k => impl_checkedExs.f.eq_1 ..) (bnd0 hare (ifp rfl (bnd (clone_is r [] r4 (by simp; omega)) (sm _))))
   ·have := nL_all r hx
    omega
  | false =>
   rw [hx] at hfit hare
   refine ⟨[], 11, evc (fun k => spec_WordBits.f.eq_1 ..) (bnd s1 (ifp rfl (ifp hb (bnd ?_ (bnd hfit (ifn (by simp) (sm _))))))), evc (fun k => impl_WordBits.f.eq_1 ..) (bnd0 t1 (ifp rfl (ifp hb (bnd0 (a := r) ?_ ?_)))), (by intro x hx; cases hx), Nat.zero_le _, by rw [nL]; omega⟩
   ·rw [Int.toNat_natCast]; exact r2
   ·rw [Int.toNat_natCast]; exact r1
   ·exact evc (fun k => impl_checkedExs.f.eq_1 ..) (bnd0 hare (ifn (by simp) (sm _)))
open Classical in
theorem FnExactWordBits : laws_FnExactWordBits.Pure := by
 intro a0 a1 l2 n h0 h1 hl hn
 refine Ev.rounds ?_
 refine evc (fun k => laws_FnExactWordBits.f.eq_1 ..) ?_
 obtain ⟨m, hm⟩ := Wd.wl_of hl
 obtain ⟨u, u0, u1, hu, hu2⟩ := Wd.szW_is m l2 hm 1048576 (by omega) (by omega)
 by_cases ht : u < 0
 ·exact bnd (a := -1) (bnd hu (ifp ht (sm _))) (ifp (by omega) (sm _))
 refine bnd (a := u) (bnd hu (ifn ht (sm _))) (ifn ht ?_)
 have e1 := hu2 (by omega)
 have L := Wd.HL_cv m l2 hm
 obtain ⟨r, c, hsp, him, hx, hlen, hnl⟩ := both m a0 a1 (l2.map Wd.cv) n h0 h1 L
 obtain ⟨p, hp⟩ := HL_of (l := r) (by omega) hx
 refine bnd (Wd.to_is a0 a1 l2 hl) (bnd hsp (bnd him (bnd (eqS_self p r hp) (bnd (Wd.eq_self m a0 a1 _ L) (bnd (heldS_is _ r 1 (Nat.le_refl _) (by omega) (by omega) (by omega) hx) ?_)))))
 exact ifp ⟨rfl, rfl, rfl, rfl, by omega, by omega, rfl⟩ (sm _)
end Go.Proofs.Ytcmkkoggdcjceaa.Pure
end
section
set_option linter.unusedVariables false
set_option linter.unusedSimpArgs false
namespace Go.Proofs.Ytcmkkoggdcjceaa.fnExactWordBits
open Go.ChangeShapes Go.WideShapes Go.ChangeAt Go.RowKit Go.Proofs.Ytcmkkoggdcjceaa.PFnExactWordBits Go.Proofs.YtcmkkoggdcjceaaW.PrintWords
open Go.ChangeMaps (open_string shut_string)
theorem own : ownKnob Try.prog.godebug = none := by kernel_rfl
theorem laidOut : laidOutB Try.prog = true := by kernel_rfl
set_option maxRecDepth 100000 in
theorem lifted (os : Os) (started : os.Started) (H : Type) (enc : TypeId × Value → H) :
  ReturnsInHanded {} Try.checked os 9 .any (Rows.fnExactWordBitsSpec.pre6 enc Try.prog Try.f9 Rows.fnExactWordBitsRow.domain false) (Rows.fnExactWordBitsSpec.post enc Try.prog Try.f9 false true false false) := by
 refine returnsInHanded_of_change_sized (C := Try.checked) own started (by kernel_rfl) Try.func9
  (ChangeSpec.witness6 (enc := enc) (C := Try.checked) false ⟨#[], #[.agg #[.int .i64 0, .int .i64 0, .slice none 0 0], .int .i64 0], []⟩ 8 (by kernel_rfl) (by kernel_rfl) (by kernel_rfl) (by kernel_rfl)) ?_
 intro W base args ds gs before hval0 hW hcnd hsz0 _
 have hsz : (DataW.weightsEach Try.prog (Try.f9.params.toList ++ Rows.fnExactWordBitsSpec.plain.varTypes Try.prog) (ds ++ gs)).all (· ≤ reachBytes) = true := hsz0
 have hval : ∀ (j : Nat) t v, Try.f9.params[j]? = some t → args[j]? = some v → Value.okWide Try.prog W .any base t v := hval0
 have hW' := hW
 obtain ⟨p, q, hA0, hV, rfl, hfz, hnd⟩ := hW
 have hA : DataW.TrodAll enc Try.prog W 0 (fun _ => true) true Try.f9.params.toList args.toList ds p := hA0
 rw [Try.params9] at hA hval hsz
 obtain ⟨v0, vs0, d0, ds0, p0, q0, hargs, rfl, rfl, h0, r0⟩ := trodAll_cons hA
 obtain ⟨v1, vs1, d1, ds1, p1, q1, rfl, rfl, rfl, h1, r1⟩ := trodAll_cons r0
 obtain ⟨rfl, rfl, rfl⟩ := trodAll_nil r1
 obtain rfl : args = #[v0, v1] := by cases args; simp_all
 obtain ⟨rfl, rfl⟩ := trodVars_none hV
 obtain ⟨cs0, rfl, z0⟩ := okWide_struct Try.underlying75 (hval 0 75 v0 rfl rfl)
 have k0 := h0
 have lt0 : ∀ x ∈ p0, x.block < W.heap.size := by obtain ⟨m, hm⟩ := k0; exact DataW.trod_lt m _ _ _ hm
 obtain ⟨x0, K0, w0⟩ := Reads.arg (j := 0) (t := 75) (k := Kd.iso (Kd.pair (Kd.int .i64) (Kd.pair (Kd.int .i64) (Kd.slice 75 k75))) (fun x : (Int) × (Int) × (List (S75)) => x)) (wf := fun p : (Int) × (Int) × (List (S75)) => Reads.WFI p.1 ∧ (Reads.WFI p.2.1 ∧ ((Reads.WFL 40 wf75) p.2.2))) (fun _ => Reads.struct (wf := fun p : (Int) × (Int) × (List (S75)) => Reads.WFI p.1 ∧ (Reads.WFI p.2.1 ∧ ((Reads.WFL 40 wf75) p.2.2))) (fun x : (Int) × (Int) × (List (S75)) => x) (fun p => p) (fun _ => rfl) Try.underlying75 (by kernel_rfl) (fun m _ => (Reads.more rfl (by kernel_rfl) ((Reads.intR Try.underlying3) m) (Reads.more rfl (by kernel_rfl) ((Reads.intR Try.underlying3) m) (Reads.last rfl (by kernel_rfl) ((Reads.sliceR (t := 73) (e := 75) Try.underlying73 (by kernel_rfl) (by kernel_rfl) rk75) m)))))) hsz rfl rfl h0
 obtain ⟨_, _, e0, rfl, ⟨_, _, rfl, rfl, ⟨A0_2, c0_2, rfl, hc0_2, hr0_2⟩⟩⟩ := K0
 obtain rfl : cs0 = #[.int .i64 x0.1, .int .i64 x0.2.1, .slice A0_2 x0.2.2.length c0_2] := by
  apply Array.toList_inj.1
  exact e0
 obtain ⟨a1, rfl, rfl, rfl, y1⟩ := open_int Try.underlying3 (hval 1 3 v1 rfl rfl) h1
 have w1 : Reads.WFI a1 := Reads.wf_i64 y1
 clear hA0 hval0 hsz0 hsz
 obtain ⟨k, h⟩ := Pure.FnExactWordBits x0.1 x0.2.1 x0.2.2 a1 (w0.1) (w0.2.1) (w0.2.2) w1
 refine (laws_FnExactWordBits.calls k x0.1 x0.2.1 _ _ x0.2.2 a1 true W hr0_2 hc0_2 h).mono ?_
 rintro e W' ⟨rfl, bel⟩
 exact ⟨_, rfl, _, _, _, [], _, [], hW', trodAll_mk1 (shut_bool Try.underlying4 _), (trodAll_cons_mk (Below.trod laidOut (by kernel_rfl) (of_decide_eq_true (by kernel_rfl)) k0 bel lt0) (trodAll_cons_mk (shut_int Try.underlying3 y1) trodAll_mk0)), rfl, bel.frame _, fun h => by cases h⟩
theorem over : Rows.fnExactWordBitsRow.holds Try.pinned (OpenSpec.ofChange Rows.fnExactWordBitsSpec) :=
 OpenClaim.holds_of_wide 9 Try.f9 rfl rfl rfl rfl rfl rfl rfl ⟨rfl, rfl, rfl, rfl, rfl⟩ rfl rfl rfl rfl rfl (by kernel_rfl) Try.func9 (by kernel_rfl)
  (of_decide_eq_true (by kernel_rfl)) (by unfold Func.isWrapper; first | (rw [if_pos (by decide +kernel)]; kernel_rfl) | (rw [if_neg (by decide +kernel)]; exact ⟨rfl, rfl⟩))
  (fun os started H enc _ => lifted os started H enc)
theorem proved : Rows.FnExactWordBitsSaid := over
end Go.Proofs.Ytcmkkoggdcjceaa.fnExactWordBits
namespace Go.Proofs.Ytcmkkoggdcjceaa
theorem fnExactWordBits_holds : Rows.FnExactWordBitsSaid := fnExactWordBits.proved
end Go.Proofs.Ytcmkkoggdcjceaa
end
#print axioms Go.Proofs.Ytcmkkoggdcjceaa.fnExactWordBits_holds
