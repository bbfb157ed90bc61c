/- WRITTEN BY A PROGRAM OF THIS SESSION (wip/xprint) OVER THE KIT's PRINT, FOR THIS CLAIM: for Go functions that the law reaches, one Lean function each and the proof that Go's call comes to its answer. No conditions but those that each theorem names. -/
import Derived.Test.YtcmkkoggdcjceaaPFnExactEqualExx0
import Derived.Test.YtcmkkoggdcjceaaPFnExactEqualExx1
import Derived.Test.YtcmkkoggdcjceaaPFnExactEqualExx2
import Derived.Test.YtcmkkoggdcjceaaPFnExactEqualExx3
import Derived.Test.YtcmkkoggdcjceaaPFnExactEqualExx7
import Derived.Test.YtcmkkoggdcjceaaPFnExactEqualExx8
namespace Go.Proofs.Ytcmkkoggdcjceaa.PFnExactEqualEx
open Go.RowKit Go.Proofs.YtcmkkoggdcjceaaW.PrintWords Go.Proofs.YtcmkkoggdcjceaaW.PrintLast Go.Proofs.YtcmkkoggdcjceaaW.PrintMore
attribute [local go_sem] max2_int min2_int max_two min_two max_three min_three max_four min_four   -- for this text's walks alone
set_option linter.unusedVariables false
set_option linter.unusedSimpArgs false

/-! ### impl_EqualEx: function 38 -/
def impl_EqualEx.l0 : Nat → List (S31) → List (S31) → Int → Int → Int → Int → List (S31) → Option (Int × Int × (List (S31)) × Int)
  | 0, _, _, _, _, _, _, _ => none
  | k + 1, x0, x1, x18, x19, x235000, x235001, x235002 => if x19 < x18 then (if 0 ≤ x19 then (if x19 < (x0.length : Int) then (if x19 < (x1.length : Int) then ((impl_ex.f 6 (([(⟨(rd_T31 x0 x19).f0, (rd_T31 x0 x19).f1, (rd_T31 x0 x19).f2⟩ : S31), (⟨(rd_T31 x1 x19).f0, (rd_T31 x1 x19).f1, (rd_T31 x1 x19).f2⟩ : S31)] : List (S31)))).bind fun bt240 => ((impl_ex.f 3 (([(⟨bt240.1, bt240.2.1, bt240.2.2⟩ : S31)] : List (S31)))).bind fun bt248 => ((impl_ex.f 4 (([(⟨x235000, x235001, x235002⟩ : S31), (⟨bt248.1, bt248.2.1, bt248.2.2⟩ : S31)] : List (S31)))).bind fun bt256 => (impl_EqualEx.l0 k x0 x1 x18 (wrap64 (x19 + 1)) bt256.1 bt256.2.1 bt256.2.2)))) else (none)) else (none)) else (none)) else ((impl_checkedEx.f k x235000 x235001 x235002).bind fun bt261 => (some (bt261.1, bt261.2.1, bt261.2.2.1, bt261.2.2.2)))
def impl_EqualEx.f (k : Nat) (l0 : List (S31)) (l1 : List (S31)) : Option (Int × Int × (List (S31)) × Int) := (impl_rowsCode.f k l0 l1).bind fun t228 => (if t228 = 0 then ((impl_constEx.f 1).bind fun bt229 => (impl_EqualEx.l0 k l0 l1 (l0.length : Int) 0 bt229.1 bt229.2.1 bt229.2.2)) else (some (0, 0, ([] : List (S31)), t228)))
theorem impl_EqualEx.mono_l : ∀ k, (∀ y0 y1 y2 y3 y4 y5 y6, LeO (impl_EqualEx.l0 k y0 y1 y2 y3 y4 y5 y6) (impl_EqualEx.l0 (k + 1) y0 y1 y2 y3 y4 y5 y6))
  | 0 => fun _ _ _ _ _ _ _ r h => by simp [impl_EqualEx.l0] at h
  | k + 1 => by
    have ih0 := impl_EqualEx.mono_l k
    · intro y0 y1 y2 y3 y4 y5 y6
      unfold impl_EqualEx.l0
      repeat' first
      | (with_reducible exact ih0 _ _ _ _ _ _ _)
      | (with_reducible exact impl_checkedEx.mono _ _ _ _)
      | (with_reducible exact impl_rowsCode.mono _ _ _)
      | (with_reducible exact LeO.refl _)
      | (with_reducible exact LeO.none _)
      | (with_reducible refine LeO.ite ?_ ?_)
      | (with_reducible refine LeO.bind ?_ (fun _ => ?_))
      | exact ih0 _ _ _ _ _ _ _
      | exact impl_checkedEx.mono _ _ _ _
      | exact impl_rowsCode.mono _ _ _
      | exact LeO.none _
      | refine LeO.ite ?_ ?_
      | refine LeO.bind ?_ (fun _ => ?_)
theorem impl_EqualEx.mono : ∀ a0 a1 k, LeO (impl_EqualEx.f k a0 a1) (impl_EqualEx.f (k + 1) a0 a1) := by
  intro a0 a1 k
  have ih0 := impl_EqualEx.mono_l k
  unfold impl_EqualEx.f
  repeat' first
      | (with_reducible exact ih0 _ _ _ _ _ _ _)
      | (with_reducible exact impl_checkedEx.mono _ _ _ _)
      | (with_reducible exact impl_rowsCode.mono _ _ _)
      | (with_reducible exact LeO.refl _)
      | (with_reducible exact LeO.none _)
      | (with_reducible refine LeO.ite ?_ ?_)
      | (with_reducible refine LeO.bind ?_ (fun _ => ?_))
      | exact ih0 _ _ _ _ _ _ _
      | exact impl_checkedEx.mono _ _ _ _
      | exact impl_rowsCode.mono _ _ _
      | exact LeO.none _
      | refine LeO.ite ?_ ?_
      | refine LeO.bind ?_ (fun _ => ?_)
def impl_EqualEx.T8 : Bool × List (List Nat × List Nat) := (true, [([], []), ([], []), ([], []), ([1, 2], [1, 2]), ([3], [3]), ([], []), ([], []), ([5, 6], [5, 6]), ([7], [7]), ([4, 8], [4, 8]), ([9], [9]), ([10], [10]), ([11, 10], [11]), ([0, 12], [0, 12]), ([13, 12], [13]), ([14, 14, 0, 1, 2, 3, 4, 5, 6, 7, 8, 9, 10, 11, 12, 13, 14], [14])])
def impl_EqualEx.B8 : List Nat := [0, 0, 0, 6, 14, 0, 0, 96, 224, 510, 1022, 2046, 4094, 8191, 16383, 32767]
theorem impl_EqualEx.tab8 : rtab .any (opsOf Try.f38 8) = impl_EqualEx.T8 := by kernel_rfl
theorem impl_EqualEx.bits8 : waitsOk impl_EqualEx.T8.2 impl_EqualEx.B8 = true := by kernel_rfl
set_option maxHeartbeats 8000000 in
set_option maxRecDepth 100000 in
theorem equalS.calls (k : Nat) (P0_ : Nat → Prop) (A0 : Option Addr) (c0 : Nat) (l0 : List (S31)) (P1_ : Nat → Prop) (A1 : Option Addr) (c1 : Nat) (l1 : List (S31)) (r1 : Int) (r2 : Int) (r3 : List (S31)) (r4 : Int) (w : World) (hs0 : Kd.V k31 31 w w.heap.size (fun k_ => P0_ k_) (.slice A0 l0.length c0) l0) (hs1 : Kd.V k31 31 w w.heap.size (fun k_ => P1_ k_) (.slice A1 l1.length c1) l1) (h : impl_EqualEx.f k l0 l1 = some (r1, r2, r3, r4)) :
    Calls Try.prog 38 #[.slice A0 l0.length c0, .slice A1 l1.length c1] w fun e w' => ∃ v2_ : Value, e = .returned (.tuple #[.agg #[.int .i64 r1, .int .i64 r2, v2_], .int .i64 r4]) ∧ Kd.S kS31 31 w' w.heap.size (fun k_ => ((P0_ k_ ∨ P1_ k_) ∨ w.heap.size ≤ k_)) v2_ r3 ∧ Below w.heap.size w w' := by
  have hu31 := Try.underlying31
  have HO0 := Aside0.mk (show Kd.V k31 31 w w.heap.size (fun k_ => ((P0_ k_ ∨ P1_ k_) ∨ w.heap.size ≤ k_)) (.slice A0 l0.length c0) l0 from Kd.V_mono hs0 (fun k_ hk => .inl (.inl hk)))
  have HO1 := Aside0.mk (show Kd.V k31 31 w w.heap.size (fun k_ => ((P0_ k_ ∨ P1_ k_) ∨ w.heap.size ≤ k_)) (.slice A1 l1.length c1) l1 from Kd.V_mono hs1 (fun k_ hk => .inl (.inr hk)))
  have HB := Aside0.mk (Below.refl w.heap.size w)
  have H : ((impl_rowsCode.f k l0 l1).bind fun t224 => (if t224 = 0 then ((impl_constEx.f 1).bind fun bt225 => (impl_EqualEx.l0 k l0 l1 (l0.length : Int) 0 bt225.1 bt225.2.1 bt225.2.2)) else (some (0, 0, ([] : List (S31)), t224)))) = some (r1, r2, r3, r4) := h
  clear h
  replace H := Option.bind_eq_some_iff.mp H
  obtain ⟨t224, A30, H⟩ := H
  replace H : (if t224 = 0 then ((impl_constEx.f 1).bind fun bt225 => (impl_EqualEx.l0 k l0 l1 (l0.length : Int) 0 bt225.1 bt225.2.1 bt225.2.2)) else (some (0, 0, ([] : List (S31)), t224))) = some (r1, r2, r3, r4) := H
  have A3 := Aside0.mk A30
  clear A30
  by_cases c4 : t224 = 0
  · rw [if_pos c4] at H
    have c4b0 : (t224 == 0) = true := beq_iff_eq.mpr c4
    have c4b1 : (t224 != 0) = false := bne_eq_false_iff_eq.mpr c4
    clear c4
    replace H := Option.bind_eq_some_iff.mp H
    obtain ⟨⟨t225, t226, t227⟩, A50, H⟩ := H
    replace H : (impl_EqualEx.l0 k l0 l1 (l0.length : Int) 0 t225 t226 t227) = some (r1, r2, r3, r4) := H
    have A5 := Aside0.mk A50
    clear A50
    have H' := Aside0.mk H
    clear H
    go_enter Try.func38, Try.ntmps38
    go_wp2_with (first | ((with_reducible refine gate_dst (N := 4) rfl ?_); refine box_event ?hg (N := 4) ?hd (cs := #[.int .i64 0, .int .i64 0, .slice none 0 0]) (t := 31) ?hr ?_; (case hd => rfl); (case hg => rfl); (case hr => first | (go_simp; done) | (go_simp; rfl)); intro gb223 hg w6 hbox hb; have n0_ := Aside0.mk (Kd.V_below (Kd.V_elderB (by (with_reducible repeat (first | apply Kd.V_alloc | apply Kd.V_drewN | apply Kd.V_drew)); exact HO0.out) gb223 (Nat.le_of_eq hg.symm)) hb); have n1_ := Aside0.mk (Kd.V_below (Kd.V_elderB (by (with_reducible repeat (first | apply Kd.V_alloc | apply Kd.V_drewN | apply Kd.V_drew)); exact HO1.out) gb223 (Nat.le_of_eq hg.symm)) hb); have n2_ := Aside0.mk (below_step (by repeat (first | (with_reducible first | exact HB.out | apply below_alloc | apply pw_below_drewN | apply below_drew1) | exact HB.out)) hb); have n3_ := Aside0.mk (hbox); have n4_ := Aside0.mk ((by rw [hg]; exact (below_size (by repeat (first | (with_reducible first | exact HB.out | apply below_alloc | apply pw_below_drewN | apply below_drew1) | exact HB.out))) : w.heap.size ≤ gb223)); have n5_ := Aside0.mk ((by rw [hg]; exact (below_size (by repeat (first | (with_reducible first | exact HB.out | apply below_alloc | apply pw_below_drewN | apply below_drew1) | exact HB.out))) : w.heap.size ≤ gb223)); clear HO0; clear HO1; clear HB; have HO0 := n0_; have HO1 := n1_; have HB := n2_; have BK223 := n3_; have GW223 := n4_; have GE223 := n5_; clear n0_ n1_ n2_ n3_ n4_ n5_; clear hb hbox hg) | ((with_reducible refine gate_callee (f := 87) rfl ?_); refine goesL_ (some 11) rfl rfl Try.func87 (by kernel_rfl) rfl #[.slice A0 l0.length c0, .slice A1 l1.length c1] rfl (by (try simp only [List.map_toArray, List.map_cons, List.map_nil]); first | done | rfl | (simp only [List.length_drop, List.length_take]; rfl)) ?_; (with_reducible refine (impl_rowsCode.calls k _ _ l0 _ _ l1 t224 _ ?side1 ?side2 ?side3 ?side4 A3.out).mono ?_); (case side1 => repeat (first | exact (Kd.V_reads' HO0.out).2.2 | (with_reducible refine Kd.C_alloc ?_ _) | (with_reducible refine Kd.C_drewN ?_ _) | (with_reducible refine Kd.C_drew ?_))); (case side2 => exact (Kd.V_reads' HO0.out).2.1); (case side3 => repeat (first | exact (Kd.V_reads' HO1.out).2.2 | (with_reducible refine Kd.C_alloc ?_ _) | (with_reducible refine Kd.C_drewN ?_ _) | (with_reducible refine Kd.C_drew ?_))); (case side4 => exact (Kd.V_reads' HO1.out).2.1); rintro e w7 ⟨rfl, hb⟩; refine ⟨_, rfl, ?_⟩; have n0_ := Aside0.mk (Kd.V_below (by (with_reducible repeat (first | apply Kd.V_alloc | apply Kd.V_drewN | apply Kd.V_drew)); exact HO0.out) hb); have n1_ := Aside0.mk (Kd.V_below (by (with_reducible repeat (first | apply Kd.V_alloc | apply Kd.V_drewN | apply Kd.V_drew)); exact HO1.out) hb); have n2_ := Aside0.mk (blk_below (g := gb223) (o := .cells #[.int .i64 0, .int .i64 0, .slice none 0 0] 31 (0, 0)) (by (with_reducible repeat (first | refine blk_drewN ?_ _ | refine blk_drew ?_ | refine blk_alloc ?_ _)); exact BK223.out) hb); have n3_ := Aside0.mk (below_step (by repeat (first | (with_reducible first | exact HB.out | apply below_alloc | apply pw_below_drewN | apply below_drew1 | refine below_set ?_ GE223.out) | exact HB.out)) hb); clear HO0; clear HO1; clear BK223; clear HB; have HO0 := n0_; have HO1 := n1_; have BK223 := n2_; have HB := n3_; clear n0_ n1_ n2_ n3_; (try clear hb); (try clear hb2); (try clear hk); (try clear hi)) | ((with_reducible refine gate_callee (f := 88) rfl ?_); refine goesL_ (some 16) rfl rfl Try.func88 (by kernel_rfl) rfl #[.int .i64 1] rfl (by (try simp only [List.map_toArray, List.map_cons, List.map_nil]); first | done | rfl | (simp only [List.length_drop, List.length_take]; rfl)) ?_; (with_reducible refine (impl_constEx.calls 1 t225 t226 t227 _ A5.out).mono ?_); rintro e w8 ⟨v228, rfl, ho0, hb⟩; refine ⟨_, rfl, ?_⟩; have n0_ := Aside0.mk (Kd.V_elder' (by (with_reducible repeat (first | apply Kd.V_alloc | apply Kd.V_drewN | apply Kd.V_drew)); exact HO0.out) (by first | exact Kd.N_base ho0 | exact Kd.R_base ho0 | exact Kd.S_base ho0) hb); have n1_ := Aside0.mk (Kd.V_elder' (by (with_reducible repeat (first | apply Kd.V_alloc | apply Kd.V_drewN | apply Kd.V_drew)); exact HO1.out) (by first | exact Kd.N_base ho0 | exact Kd.R_base ho0 | exact Kd.S_base ho0) hb); have n2_ := Aside0.mk (Kd.N_lower (Kd.N_mono (ok' := fun k_ => ((P0_ k_ ∨ P1_ k_) ∨ w.heap.size ≤ k_) ∧ k_ ≠ gb223) (Kd.R_N (Kd.R_bound ho0)) (fun k_ hk_ => ⟨(.inr (Nat.le_trans (below_size (by repeat (first | (with_reducible first | exact HB.out | apply below_alloc | apply pw_below_drewN | apply below_drew1 | refine below_set ?_ GE223.out) | exact HB.out))) hk_.2.1)), (Kd.freshB (g := gb223) (o := .cells #[.int .i64 0, .int .i64 0, .slice none 0 0] 31 (0, 0)) (by (with_reducible repeat (first | refine blk_drewN ?_ _ | refine blk_drew ?_ | refine blk_alloc ?_ _)); exact BK223.out) k_ hk_.2.1)⟩)) (below_size (by repeat (first | (with_reducible first | exact HB.out | apply below_alloc | apply pw_below_drewN | apply below_drew1 | refine below_set ?_ GE223.out) | exact HB.out)))); have n3_ := Aside0.mk (blk_below (g := gb223) (o := .cells #[.int .i64 0, .int .i64 0, .slice none 0 0] 31 (0, 0)) (by (with_reducible repeat (first | refine blk_drewN ?_ _ | refine blk_drew ?_ | refine blk_alloc ?_ _)); exact BK223.out) hb); have n4_ := Aside0.mk (below_step (by repeat (first | (with_reducible first | exact HB.out | apply below_alloc | apply pw_below_drewN | apply below_drew1 | refine below_set ?_ GE223.out) | exact HB.out)) hb); clear HO0; clear HO1; clear BK223; clear HB; have HO0 := n0_; have HO1 := n1_; have HO229 := n2_; have BK223 := n3_; have HB := n4_; clear n0_ n1_ n2_ n3_ n4_; (try clear hb); (try clear hb2); (try clear hk); (try clear hi); (try clear ho0)) | ((with_reducible refine gate_dst (N := 7) rfl ?_); refine box_event ?hg (N := 7) ?hd (cs := #[.int .i64 0, .int .i64 0, .slice none 0 0]) (t := 31) ?hr ?_; (case hd => rfl); (case hg => rfl); (case hr => first | (go_simp; done) | (go_simp; rfl)); intro gb230 hg w9 hbox hb; have n0_ := Aside0.mk (Kd.V_below (Kd.V_elderB (by (with_reducible repeat (first | apply Kd.V_alloc | apply Kd.V_drewN | apply Kd.V_drew)); exact HO0.out) gb230 (Nat.le_of_eq hg.symm)) hb); have n1_ := Aside0.mk (Kd.V_below (Kd.V_elderB (by (with_reducible repeat (first | apply Kd.V_alloc | apply Kd.V_drewN | apply Kd.V_drew)); exact HO1.out) gb230 (Nat.le_of_eq hg.symm)) hb); have n2_ := Aside0.mk (Kd.N_below (Kd.N_elderB (by (with_reducible repeat (first | apply Kd.N_alloc | apply Kd.N_drewN | apply Kd.N_drew)); exact HO229.out) gb230 (Nat.le_of_eq hg.symm)) hb); have n3_ := Aside0.mk (blk_below (g := gb223) (o := .cells #[.int .i64 0, .int .i64 0, .slice none 0 0] 31 (0, 0)) (by (with_reducible repeat (first | refine blk_drewN ?_ _ | refine blk_drew ?_ | refine blk_alloc ?_ _)); exact BK223.out) hb); have n4_ := Aside0.mk (below_step (by repeat (first | (with_reducible first | exact HB.out | apply below_alloc | apply pw_below_drewN | apply below_drew1 | refine below_set ?_ GE223.out) | exact HB.out)) hb); have n5_ := Aside0.mk (hbox); have n6_ := Aside0.mk ((by rw [hg]; exact (below_size (by repeat (first | (with_reducible first | exact HB.out | apply below_alloc | apply pw_below_drewN | apply below_drew1 | refine below_set ?_ GE223.out) | exact HB.out))) : w.heap.size ≤ gb230)); have n7_ := Aside0.mk ((by rw [hg]; exact (below_size (by repeat (first | (with_reducible first | exact HB.out | apply below_alloc | apply pw_below_drewN | apply below_drew1 | refine below_set ?_ GE223.out) | exact HB.out))) : w.heap.size ≤ gb230)); have n8_ := Aside0.mk ((by rw [hg]; exact Nat.ne_of_lt (blk_lt (g := gb223) (o := .cells #[.int .i64 0, .int .i64 0, .slice none 0 0] 31 (0, 0)) (by (with_reducible repeat (first | refine blk_drewN ?_ _ | refine blk_drew ?_ | refine blk_alloc ?_ _)); exact BK223.out)) : gb223 ≠ gb230)); have n9_ := Aside0.mk ((by rw [hg]; exact Nat.ne_of_gt (blk_lt (g := gb223) (o := .cells #[.int .i64 0, .int .i64 0, .slice none 0 0] 31 (0, 0)) (by (with_reducible repeat (first | refine blk_drewN ?_ _ | refine blk_drew ?_ | refine blk_alloc ?_ _)); exact BK223.out)) : gb230 ≠ gb223)); clear HO0; clear HO1; clear HO229; clear BK223; clear HB; have HO0 := n0_; have HO1 := n1_; have HO229 := n2_; have BK223 := n3_; have HB := n4_; have BK230 := n5_; have GW230 := n6_; have GE230 := n7_; have NB223_230 := n8_; have NB230_223 := n9_; clear n0_ n1_ n2_ n3_ n4_ n5_ n6_ n7_ n8_ n9_; clear hb hbox hg; have hnb10 := NB230_223.out; have hnc10 := NB223_230.out; have hcz11_0 : w9.cell? ⟨gb230, 0, none⟩ = some (.int .i64 0) := (blk_cell BK230.out 0).trans rfl; have hcz11_1 : w9.cell? ⟨gb230, 1, none⟩ = some (.int .i64 0) := (blk_cell BK230.out 1).trans rfl; have hcz11_2 : w9.cell? ⟨gb230, 2, none⟩ = some (.slice none 0 0) := (blk_cell BK230.out 2).trans rfl; have hfz11_0 := blk_frozen BK230.out 0; have hfz11_1 := blk_frozen BK230.out 1; have hfz11_2 := blk_frozen BK230.out 2; obtain ⟨Ao12, co12, eo12⟩ := Kd.N_slice HO229.out; subst eo12))
    go_loopg [19] k (fun kq v19 w' => ∃ (x19_1 : Int) (x231000_1 : Int) (x231001_1 : Int) (x231002_1 : List (S31)) (u231002 : Value), v19 = .int .i64 x19_1 ∧ Aside0 (impl_EqualEx.l0 kq l0 l1 (l0.length : Int) x19_1 x231000_1 x231001_1 x231002_1 = some (r1, r2, r3, r4)) ∧ Aside0 (kq ≤ k) ∧ Aside0 (Kd.V k31 31 w' w.heap.size (fun k_ => ((P0_ k_ ∨ P1_ k_) ∨ w.heap.size ≤ k_) ∧ k_ ≠ gb223 ∧ k_ ≠ gb230) (.slice A0 l0.length c0) l0) ∧ Aside0 (Kd.V k31 31 w' w.heap.size (fun k_ => ((P0_ k_ ∨ P1_ k_) ∨ w.heap.size ≤ k_) ∧ k_ ≠ gb223 ∧ k_ ≠ gb230) (.slice A1 l1.length c1) l1) ∧ Aside0 (Kd.V k31 31 w' w.heap.size (fun k_ => ((P0_ k_ ∨ P1_ k_) ∨ w.heap.size ≤ k_) ∧ k_ ≠ gb223 ∧ k_ ≠ gb230) u231002 x231002_1) ∧ Aside0 (w'.heap[gb223]? = some (.cells #[.int .i64 0, .int .i64 0, (.slice none 0 0)] 31 (0, 0))) ∧ Aside0 (w'.heap[gb230]? = some (.cells #[.int .i64 x231000_1, .int .i64 x231001_1, u231002] 31 (0, 0))) ∧ Aside0 (Below w.heap.size w w'))
    case atStart => exact ⟨(0), (t225), (t226), (t227), (.slice Ao12 t227.length co12), (by first | rfl | (simp; done) | (simp [*]; done)), H', ⟨Nat.le_refl _⟩, ⟨by (with_reducible repeat (first | apply Kd.V_alloc | apply Kd.V_drewN | apply Kd.V_drew)); exact Kd.V_mono (Kd.V_far (p := ⟨gb230, 2, none⟩) (Kd.V_far (p := ⟨gb230, 1, none⟩) (Kd.V_far (p := ⟨gb230, 0, none⟩) (Kd.V_mono HO0.out (fun k_ hk => (⟨hk, hk.2⟩ : _ ∧ k_ ≠ gb230))) (fun _ hk => hk.2) (.int .i64 t225)) (fun _ hk => hk.2) (.int .i64 t226)) (fun _ hk => hk.2) (.slice Ao12 t227.length co12)) (fun _ hk => ⟨hk.1.1.1.1, ⟨hk.1.1.1.2, hk.1.2⟩⟩)⟩, ⟨by (with_reducible repeat (first | apply Kd.V_alloc | apply Kd.V_drewN | apply Kd.V_drew)); exact Kd.V_mono (Kd.V_far (p := ⟨gb230, 2, none⟩) (Kd.V_far (p := ⟨gb230, 1, none⟩) (Kd.V_far (p := ⟨gb230, 0, none⟩) (Kd.V_mono HO1.out (fun k_ hk => (⟨hk, hk.2⟩ : _ ∧ k_ ≠ gb230))) (fun _ hk => hk.2) (.int .i64 t225)) (fun _ hk => hk.2) (.int .i64 t226)) (fun _ hk => hk.2) (.slice Ao12 t227.length co12)) (fun _ hk => ⟨hk.1.1.1.1, ⟨hk.1.1.1.2, hk.1.2⟩⟩)⟩, ⟨Kd.N_V (by (with_reducible repeat (first | apply Kd.N_alloc | apply Kd.N_drewN | apply Kd.N_drew)); exact Kd.N_mono (Kd.N_far (p := ⟨gb230, 2, none⟩) (Kd.N_far (p := ⟨gb230, 1, none⟩) (Kd.N_far (p := ⟨gb230, 0, none⟩) (Kd.N_mono HO229.out (fun k_ hk => (⟨hk, hk.2⟩ : _ ∧ k_ ≠ gb230))) (fun _ hk => hk.2) (.int .i64 t225)) (fun _ hk => hk.2) (.int .i64 t226)) (fun _ hk => hk.2) (.slice Ao12 t227.length co12)) (fun _ hk => ⟨hk.1.1.1, ⟨hk.1.1.2, hk.1.2⟩⟩))⟩, ⟨by (with_reducible repeat (first | refine blk_drewN ?_ _ | refine blk_drew ?_ | refine blk_alloc ?_ _)); refine blk_far ?_ NB223_230.out _; (with_reducible repeat (first | refine blk_drewN ?_ _ | refine blk_drew ?_ | refine blk_alloc ?_ _)); refine blk_far ?_ NB223_230.out _; (with_reducible repeat (first | refine blk_drewN ?_ _ | refine blk_drew ?_ | refine blk_alloc ?_ _)); refine blk_far ?_ NB223_230.out _; (with_reducible repeat (first | refine blk_drewN ?_ _ | refine blk_drew ?_ | refine blk_alloc ?_ _)); exact BK223.out⟩, ⟨by (with_reducible repeat (first | refine blk_drewN ?_ _ | refine blk_drew ?_ | refine blk_alloc ?_ _)); refine blk_put (cs := #[.int .i64 t225, .int .i64 t226, .slice none 0 0]) ?_ 2 _ rfl; (with_reducible repeat (first | refine blk_drewN ?_ _ | refine blk_drew ?_ | refine blk_alloc ?_ _)); refine blk_put (cs := #[.int .i64 t225, .int .i64 0, .slice none 0 0]) ?_ 1 _ rfl; (with_reducible repeat (first | refine blk_drewN ?_ _ | refine blk_drew ?_ | refine blk_alloc ?_ _)); refine blk_put (cs := #[.int .i64 0, .int .i64 0, .slice none 0 0]) ?_ 0 _ rfl; (with_reducible repeat (first | refine blk_drewN ?_ _ | refine blk_drew ?_ | refine blk_alloc ?_ _)); exact BK230.out⟩, ⟨by repeat (first | (with_reducible first | exact HB.out | apply below_alloc | apply pw_below_drewN | apply below_drew1 | refine below_set ?_ GE223.out | refine below_set ?_ GE230.out) | exact HB.out)⟩⟩
    case round =>
      clear H'
      try clear c1
      try clear p2
      try clear c3
      try clear c4
      try clear c4b0
      try clear c4b1
      try clear c8
      try clear c10
      try clear hcz11_0
      try clear hcz11_1
      try clear hcz11_2
      try clear hfz11_0
      try clear hfz11_1
      try clear hfz11_2
      obtain ⟨x19_1, x231000_1, x231001_1, x231002_1, u231002, rfl, HA, HK1, HO_0, HO_1, HO_231002, BK223, BK230, HB⟩ := hrel
      cases gk with
      | zero => exact absurd HA.out (by simp [impl_EqualEx.l0])
      | succ k1 =>
        have H := HA.out
        clear HA
        simp only [impl_EqualEx.l0] at H
        by_cases c13 : x19_1 < (l0.length : Int)
        · rw [if_pos c13] at H
          have c13b0 : decide (x19_1 < (l0.length : Int)) = true := decide_eq_true c13
          clear c13
          by_cases c14 : 0 ≤ x19_1
          · rw [if_pos c14] at H
            have c14b0 : decide (0 ≤ x19_1) = true := decide_eq_true c14
            clear c14
            by_cases c15 : x19_1 < (l0.length : Int)
            · rw [if_pos c15] at H
              have c15b0 : decide (x19_1 < (l0.length : Int)) = true := decide_eq_true c15
              clear c15
              by_cases c16 : x19_1 < (l1.length : Int)
              · rw [if_pos c16] at H
                have c16b0 : decide (x19_1 < (l1.length : Int)) = true := decide_eq_true c16
                clear c16
                obtain ⟨y233, hy233⟩ : ∃ y_ : List (S31), y_ = (([(⟨(rd_T31 l0 x19_1).f0, (rd_T31 l0 x19_1).f1, (rd_T31 l0 x19_1).f2⟩ : S31), (⟨(rd_T31 l1 x19_1).f0, (rd_T31 l1 x19_1).f1, (rd_T31 l1 x19_1).f2⟩ : S31)] : List (S31))) := ⟨_, rfl⟩
                replace H : ((impl_ex.f 6 y233).bind fun bt236 => ((impl_ex.f 3 (([(⟨bt236.1, bt236.2.1, bt236.2.2⟩ : S31)] : List (S31)))).bind fun bt244 => ((impl_ex.f 4 (([(⟨x231000_1, x231001_1, x231002_1⟩ : S31), (⟨bt244.1, bt244.2.1, bt244.2.2⟩ : S31)] : List (S31)))).bind fun bt252 => (impl_EqualEx.l0 k1 l0 l1 (l0.length : Int) (wrap64 (x19_1 + 1)) bt252.1 bt252.2.1 bt252.2.2)))) = some (r1, r2, r3, r4) := by first | (rw [hy233]; with_reducible exact H) | (have H2_ := (Option.bind_some _ _).symm.trans H; rw [hy233]; with_reducible exact H2_) | (have H2_ := (Option.bind_some _ _).symm.trans H; with_reducible exact H2_) | with_reducible exact H | (rw [hy233]; exact H) | exact H
                have Ny233 := Aside0.mk hy233
                clear hy233
                replace H := Option.bind_eq_some_iff.mp H
                obtain ⟨⟨t236, t237, t238⟩, A170, H⟩ := H
                replace H : ((impl_ex.f 3 (([(⟨t236, t237, t238⟩ : S31)] : List (S31)))).bind fun bt244 => ((impl_ex.f 4 (([(⟨x231000_1, x231001_1, x231002_1⟩ : S31), (⟨bt244.1, bt244.2.1, bt244.2.2⟩ : S31)] : List (S31)))).bind fun bt252 => (impl_EqualEx.l0 k1 l0 l1 (l0.length : Int) (wrap64 (x19_1 + 1)) bt252.1 bt252.2.1 bt252.2.2))) = some (r1, r2, r3, r4) := H
                have A17 := Aside0.mk A170
                clear A170
                obtain ⟨y241, hy241⟩ : ∃ y_ : List (S31), y_ = (([(⟨t236, t237, t238⟩ : S31)] : List (S31))) := ⟨_, rfl⟩
                replace H : ((impl_ex.f 3 y241).bind fun bt244 => ((impl_ex.f 4 (([(⟨x231000_1, x231001_1, x231002_1⟩ : S31), (⟨bt244.1, bt244.2.1, bt244.2.2⟩ : S31)] : List (S31)))).bind fun bt252 => (impl_EqualEx.l0 k1 l0 l1 (l0.length : Int) (wrap64 (x19_1 + 1)) bt252.1 bt252.2.1 bt252.2.2))) = some (r1, r2, r3, r4) := by first | (rw [hy241]; with_reducible exact H) | (have H2_ := (Option.bind_some _ _).symm.trans H; rw [hy241]; with_reducible exact H2_) | (have H2_ := (Option.bind_some _ _).symm.trans H; with_reducible exact H2_) | with_reducible exact H | (rw [hy241]; exact H) | exact H
                have Ny241 := Aside0.mk hy241
                clear hy241
                replace H := Option.bind_eq_some_iff.mp H
                obtain ⟨⟨t244, t245, t246⟩, A180, H⟩ := H
                replace H : ((impl_ex.f 4 (([(⟨x231000_1, x231001_1, x231002_1⟩ : S31), (⟨t244, t245, t246⟩ : S31)] : List (S31)))).bind fun bt252 => (impl_EqualEx.l0 k1 l0 l1 (l0.length : Int) (wrap64 (x19_1 + 1)) bt252.1 bt252.2.1 bt252.2.2)) = some (r1, r2, r3, r4) := H
                have A18 := Aside0.mk A180
                clear A180
                obtain ⟨y249, hy249⟩ : ∃ y_ : List (S31), y_ = (([(⟨x231000_1, x231001_1, x231002_1⟩ : S31), (⟨t244, t245, t246⟩ : S31)] : List (S31))) := ⟨_, rfl⟩
                replace H : ((impl_ex.f 4 y249).bind fun bt252 => (impl_EqualEx.l0 k1 l0 l1 (l0.length : Int) (wrap64 (x19_1 + 1)) bt252.1 bt252.2.1 bt252.2.2)) = some (r1, r2, r3, r4) := by first | (rw [hy249]; with_reducible exact H) | (have H2_ := (Option.bind_some _ _).symm.trans H; rw [hy249]; with_reducible exact H2_) | (have H2_ := (Option.bind_some _ _).symm.trans H; with_reducible exact H2_) | with_reducible exact H | (rw [hy249]; exact H) | exact H
                have Ny249 := Aside0.mk hy249
                clear hy249
                replace H := Option.bind_eq_some_iff.mp H
                obtain ⟨⟨t252, t253, t254⟩, A190, H⟩ := H
                replace H : (impl_EqualEx.l0 k1 l0 l1 (l0.length : Int) (wrap64 (x19_1 + 1)) t252 t253 t254) = some (r1, r2, r3, r4) := H
                have A19 := Aside0.mk A190
                clear A190
                have H' := Aside0.mk H
                clear H
                try go_wp2
                have n0_ := Aside0.mk (Kd.V_drew HO_0.out)
                have n1_ := Aside0.mk (Kd.V_drew HO_1.out)
                have n2_ := Aside0.mk (Kd.V_drew HO_231002.out)
                have n3_ := Aside0.mk (blk_drew BK223.out)
                have n4_ := Aside0.mk (blk_drew BK230.out)
                have n5_ := Aside0.mk (below_drew1 HB.out)
                clear HO_0
                clear HO_1
                clear HO_231002
                clear BK223
                clear BK230
                clear HB
                have HO_0 := n0_
                have HO_1 := n1_
                have HO_231002 := n2_
                have BK223 := n3_
                have BK230 := n4_
                have HB := n5_
                clear n0_ n1_ n2_ n3_ n4_ n5_
                have p231 : 0 ≤ (x19_1 : Int) := of_decide_eq_true (by first | (with_reducible assumption) | assumption)
                have q231 : x19_1 < (l0.length : Int) := of_decide_eq_true (by first | (with_reducible assumption) | assumption)
                obtain ⟨ad231, A231_2, c231_2, e231, hx231_0, hx231_1, hx231_2, hl231_2, hi231_2⟩ := at_T31 (Kd.V_reads' HO_0.out).2.2 x19_1 p231 q231
                cases e231
                obtain ⟨ce231, hce231, hMe231, hcc231⟩ := Kd.V_get HO_0.out z31 x19_1 p231 (by first | exact q231 | exact of_decide_eq_true (by first | (with_reducible assumption) | assumption) | (have e_ := (Kd.V_reads' HO_0.out).1; omega))
                obtain ⟨ua231_2, uc231_2, rfl, ul231_2, ge231_2⟩ := k31_openF hMe231
                have hv231_2 := hcc231 2 _ rfl
                rw [add_field _ _ 2 (by omega)] at hv231_2
                replace hv231_2 := Option.some.inj (hv231_2.symm.trans hx231_2)
                injection hv231_2 with hva_ hvn_ hvc_
                rw [hva_] at ge231_2
                rw [hvc_] at ul231_2
                have HL231_2 := Aside0.mk (show Kd.V k31 31 _ w.heap.size _ _ ((rd_T31 l0 x19_1).f2) from Kd.V_mk ul231_2 ge231_2)
                clear hva_ hvn_ hvc_ ge231_2 ul231_2
                clear hcc231 hce231
                have HR231_2 := Aside0.mk hi231_2
                have HC231_2 := Aside0.mk hl231_2
                clear hi231_2 hl231_2
                replace p231 := eq_true p231
                replace q231 := eq_true q231
                have p232 : 0 ≤ (x19_1 : Int) := of_decide_eq_true (by first | (with_reducible assumption) | assumption)
                have q232 : x19_1 < (l1.length : Int) := of_decide_eq_true (by first | (with_reducible assumption) | assumption)
                obtain ⟨ad232, A232_2, c232_2, e232, hx232_0, hx232_1, hx232_2, hl232_2, hi232_2⟩ := at_T31 (Kd.V_reads' HO_1.out).2.2 x19_1 p232 q232
                cases e232
                obtain ⟨ce232, hce232, hMe232, hcc232⟩ := Kd.V_get HO_1.out z31 x19_1 p232 (by first | exact q232 | exact of_decide_eq_true (by first | (with_reducible assumption) | assumption) | (have e_ := (Kd.V_reads' HO_1.out).1; omega))
                obtain ⟨ua232_2, uc232_2, rfl, ul232_2, ge232_2⟩ := k31_openF hMe232
                have hv232_2 := hcc232 2 _ rfl
                rw [add_field _ _ 2 (by omega)] at hv232_2
                replace hv232_2 := Option.some.inj (hv232_2.symm.trans hx232_2)
                injection hv232_2 with hva_ hvn_ hvc_
                rw [hva_] at ge232_2
                rw [hvc_] at ul232_2
                have HL232_2 := Aside0.mk (show Kd.V k31 31 _ w.heap.size _ _ ((rd_T31 l1 x19_1).f2) from Kd.V_mk ul232_2 ge232_2)
                clear hva_ hvn_ hvc_ ge232_2 ul232_2
                clear hcc232 hce232
                have HR232_2 := Aside0.mk hi232_2
                have HC232_2 := Aside0.mk hl232_2
                clear hi232_2 hl232_2
                replace p232 := eq_true p232
                replace q232 := eq_true q232
                refine start_ (n := 16) (S := fun w' => w'.cell? ⟨gb230, 0, none⟩ = some (.int .i64 x231000_1) ∧ w'.cell? ⟨gb230, 1, none⟩ = some (.int .i64 x231001_1) ∧ w'.cell? ⟨gb230, 2, none⟩ = some (u231002) ∧ w'.cell? (ad231.add ((x19_1).toNat * 3)) = some (.int .i64 ((rd_T31 l0 x19_1).f0)) ∧ w'.cell? ⟨(ad231.add ((x19_1).toNat * 3)).block, (ad231.add ((x19_1).toNat * 3)).off + 1, none⟩ = some (.int .i64 ((rd_T31 l0 x19_1).f1)) ∧ w'.cell? ⟨(ad231.add ((x19_1).toNat * 3)).block, (ad231.add ((x19_1).toNat * 3)).off + 2, none⟩ = some (.slice A231_2 ((rd_T31 l0 x19_1).f2).length c231_2) ∧ w'.cell? (ad232.add ((x19_1).toNat * 3)) = some (.int .i64 ((rd_T31 l1 x19_1).f0)) ∧ w'.cell? ⟨(ad232.add ((x19_1).toNat * 3)).block, (ad232.add ((x19_1).toNat * 3)).off + 1, none⟩ = some (.int .i64 ((rd_T31 l1 x19_1).f1)) ∧ w'.cell? ⟨(ad232.add ((x19_1).toNat * 3)).block, (ad232.add ((x19_1).toNat * 3)).off + 2, none⟩ = some (.slice A232_2 ((rd_T31 l1 x19_1).f2).length c232_2)) (ds := [15]) #[false, false, false, false, false, false, false, false, false, false, false, false, false, false, false, false] (by kernel_rfl) rfl rfl ⟨(blk_cell BK230.out 0).trans rfl, (blk_cell BK230.out 1).trans rfl, (blk_cell BK230.out 2).trans rfl, hx231_0, hx231_1, hx231_2, hx232_0, hx232_1, hx232_2⟩ (fun hHeld => ?_); refine with_tabW impl_EqualEx.tab8 impl_EqualEx.bits8 (fun HT_ HW_ => ?_)
                generalize wr.drew = w20 at HO_0 HO_1 HO_231002 BK223 BK230 HB HL231_2 HL232_2 HR231_2 HR232_2 hx231_0 hx231_1 hx231_2 hx232_0 hx232_1 hx232_2 hHeld ⊢
                refine pure_ (i := 1) (N := some 23) (v := ?_) (a' := ?_) #[false, true, false, false, false, false, false, false, false, false, false, false, false, false, false, false] rfl rfl (any_of HT_.out (by kernel_rfl)) (fun _ _ _ h => h) (Or.inl ⟨by rfl, ?_⟩) ?_ ?_
                rotate_left
                · intro w'
                  go_simp
                  with_reducible rfl
                rotate_left
                · simp only [Act.put, List.setIfInBounds_toArray, List.set_cons_zero, List.set_cons_succ, i64_w, i32_w]
                  rfl
                refine pure_ (i := 2) (N := some 24) (v := ?_) (a' := ?_) #[false, true, true, false, false, false, false, false, false, false, false, false, false, false, false, false] rfl rfl (any_of HT_.out (by kernel_rfl)) (fun _ _ _ h => h) (Or.inl ⟨by rfl, ?_⟩) ?_ ?_
                rotate_left
                · intro w'
                  go_simp
                  with_reducible rfl
                rotate_left
                · simp only [Act.put, List.setIfInBounds_toArray, List.set_cons_zero, List.set_cons_succ, i64_w, i32_w]
                  rfl
                refine pure_ (i := 3) (N := some 25) (v := ?_) (a' := ?_) #[false, true, true, true, false, false, false, false, false, false, false, false, false, false, false, false] rfl rfl (any_of HT_.out (by kernel_rfl)) (fun _ _ _ h => h) (Or.inl ⟨by rfl, ?_⟩) ?_ ?_
                rotate_left
                · intro w'
                  go_simp
                  with_reducible rfl
                rotate_left
                · simp only [Act.put, List.setIfInBounds_toArray, List.set_cons_zero, List.set_cons_succ, i64_w, i32_w]
                  rfl
                refine pure_ (i := 5) (N := some 27) (v := ?_) (a' := ?_) #[false, true, true, true, false, true, false, false, false, false, false, false, false, false, false, false] rfl rfl (any_of HT_.out (by kernel_rfl)) (fun _ _ _ h => h) (Or.inl ⟨by rfl, ?_⟩) ?_ ?_
                rotate_left
                · intro w'
                  go_simp
                  with_reducible rfl
                rotate_left
                · simp only [Act.put, List.setIfInBounds_toArray, List.set_cons_zero, List.set_cons_succ, i64_w, i32_w]
                  rfl
                refine pure_ (i := 6) (N := some 28) (v := ?_) (a' := ?_) #[false, true, true, true, false, true, true, false, false, false, false, false, false, false, false, false] rfl rfl (any_of HT_.out (by kernel_rfl)) (fun _ _ _ h => h) (Or.inl ⟨by rfl, ?_⟩) ?_ ?_
                rotate_left
                · intro w'
                  go_simp
                  with_reducible rfl
                rotate_left
                · simp only [Act.put, List.setIfInBounds_toArray, List.set_cons_zero, List.set_cons_succ, i64_w, i32_w]
                  rfl
                refine pure_ (i := 7) (N := some 29) (v := ?_) (a' := ?_) #[false, true, true, true, false, true, true, true, false, false, false, false, false, false, false, false] rfl rfl (any_of HT_.out (by kernel_rfl)) (fun _ _ _ h => h) (Or.inl ⟨by rfl, ?_⟩) ?_ ?_
                rotate_left
                · intro w'
                  go_simp
                  with_reducible rfl
                rotate_left
                · simp only [Act.put, List.setIfInBounds_toArray, List.set_cons_zero, List.set_cons_succ, i64_w, i32_w]
                  rfl
                refine take_ (i := 0) (N := some 22) (v := ?_) (a' := ?_) #[true, true, true, true, false, true, true, true, false, false, false, false, false, false, false, false] rfl rfl (take_ofW HT_.out HW_.out (by kernel_rfl)) (fun _ _ _ h => h) (Or.inl ⟨by rfl, ?_⟩) hHeld ?_ ?_
                rotate_left
                · rintro w' ⟨s0, s1, s2, s3, s4, s5, s6, s7, s8⟩
                  go_simp
                  with_reducible rfl
                rotate_left
                · simp only [Act.put, List.setIfInBounds_toArray, List.set_cons_zero, List.set_cons_succ, i64_w, i32_w]
                  rfl
                refine take_ (i := 4) (N := some 26) (v := ?_) (a' := ?_) #[true, true, true, true, true, true, true, true, false, false, false, false, false, false, false, false] rfl rfl (take_ofW HT_.out HW_.out (by kernel_rfl)) (fun _ _ _ h => h) (Or.inl ⟨by rfl, ?_⟩) hHeld ?_ ?_
                rotate_left
                · rintro w' ⟨s0, s1, s2, s3, s4, s5, s6, s7, s8⟩
                  go_simp
                  with_reducible rfl
                rotate_left
                · simp only [Act.put, List.setIfInBounds_toArray, List.set_cons_zero, List.set_cons_succ, i64_w, i32_w]
                  rfl
                refine take_ (i := 8) (N := some 30) (v := ?_) (a' := ?_) #[true, true, true, true, true, true, true, true, true, false, false, false, false, false, false, false] rfl rfl (take_ofW HT_.out HW_.out (by kernel_rfl)) (fun _ _ _ h => h) (Or.inl ⟨by rfl, ?_⟩) hHeld ?_ ?_
                rotate_left
                · rintro w' ⟨s0, s1, s2, s3, s4, s5, s6, s7, s8⟩
                  go_simp
                  with_reducible rfl
                rotate_left
                · simp only [Act.put, List.setIfInBounds_toArray, List.set_cons_zero, List.set_cons_succ, i64_w, i32_w]
                  rfl
                refine one_ (i := 9) (N := some 31) #[true, true, true, true, true, true, true, true, true, true, false, false, false, false, false, false] rfl rfl (one_of HT_.out (by kernel_rfl)) (by decide) (fun K hK => ?_)
                refine Kd.N_lit_step k31 _ 31 ?hg (N' := 31) ?hd (xs := ([(⟨(rd_T31 l0 x19_1).f0, (rd_T31 l0 x19_1).f1, (rd_T31 l0 x19_1).f2⟩ : S31), (⟨(rd_T31 l1 x19_1).f0, (rd_T31 l1 x19_1).f1, (rd_T31 l1 x19_1).f2⟩ : S31)] : List (S31))) (inner := [.int .i64 ((rd_T31 l0 x19_1).f0), .int .i64 ((rd_T31 l0 x19_1).f1), .slice A231_2 ((rd_T31 l0 x19_1).f2).length c231_2, .int .i64 ((rd_T31 l1 x19_1).f0), .int .i64 ((rd_T31 l1 x19_1).f1), .slice A232_2 ((rd_T31 l1 x19_1).f2).length c232_2]) (ok := (fun k_ => ((P0_ k_ ∨ P1_ k_) ∨ w.heap.size ≤ k_) ∧ k_ ≠ gb223 ∧ k_ ≠ gb230)) (okp := (fun k_ => ((P0_ k_ ∨ P1_ k_) ∨ w.heap.size ≤ k_) ∧ k_ ≠ gb223 ∧ k_ ≠ gb230)) ?hr ?hp (fun _ hk => hk) ((show ∀ k_, w20.heap.size ≤ k_ → (fun k_ => ((P0_ k_ ∨ P1_ k_) ∨ w.heap.size ≤ k_) ∧ k_ ≠ gb223 ∧ k_ ≠ gb230) k_ from fun k_ hk => ⟨(.inr (Nat.le_trans (below_size (by repeat (first | (with_reducible first | exact HB.out | apply below_alloc | apply pw_below_drewN | apply below_drew1 | refine below_set ?_ GE223.out | refine below_set ?_ GE230.out) | exact HB.out))) hk)), Kd.freshB (g := gb223) (o := .cells #[.int .i64 0, .int .i64 0, .slice none 0 0] 31 (0, 0)) (by (with_reducible repeat (first | refine blk_drewN ?_ _ | refine blk_drew ?_ | refine blk_alloc ?_ _)); exact BK223.out) k_ hk, Kd.freshB (g := gb230) (o := .cells #[.int .i64 x231000_1, .int .i64 x231001_1, u231002] 31 (0, 0)) (by (with_reducible repeat (first | refine blk_drewN ?_ _ | refine blk_drew ?_ | refine blk_alloc ?_ _)); exact BK230.out) k_ hk⟩) _ (Nat.le_refl _)) (Below.refl _ _) (Nat.le_refl _) (by simp) ?_; (case hd => rfl); (case hg => rfl); (case hr => first | (go_simp; done) | (go_simp; rfl)); (case hp => exact (Reps.c3 (show Kd.FK k31 _ _ (⟨(rd_T31 l0 x19_1).f0, (rd_T31 l0 x19_1).f1, (rd_T31 l0 x19_1).f2⟩ : S31) [.int .i64 ((rd_T31 l0 x19_1).f0), .int .i64 ((rd_T31 l0 x19_1).f1), .slice A231_2 ((rd_T31 l0 x19_1).f2).length c231_2] from (k31_mkF _ _ (⟨(rd_T31 l0 x19_1).f0, (rd_T31 l0 x19_1).f1, (rd_T31 l0 x19_1).f2⟩ : S31) (Kd.V_reads' (Kd.V_mono (ok' := (fun k_ => ((P0_ k_ ∨ P1_ k_) ∨ w.heap.size ≤ k_) ∧ k_ ≠ gb223 ∧ k_ ≠ gb230)) (HL231_2.out) (fun k_ hk => ⟨hk.1, ⟨hk.2.1, hk.2.2⟩⟩))).2.1 (Kd.V_F (Kd.V_mono (ok' := (fun k_ => ((P0_ k_ ∨ P1_ k_) ∨ w.heap.size ≤ k_) ∧ k_ ≠ gb223 ∧ k_ ≠ gb230)) (HL231_2.out) (fun k_ hk => ⟨hk.1, ⟨hk.2.1, hk.2.2⟩⟩))))) (Reps.c3 (show Kd.FK k31 _ _ (⟨(rd_T31 l1 x19_1).f0, (rd_T31 l1 x19_1).f1, (rd_T31 l1 x19_1).f2⟩ : S31) [.int .i64 ((rd_T31 l1 x19_1).f0), .int .i64 ((rd_T31 l1 x19_1).f1), .slice A232_2 ((rd_T31 l1 x19_1).f2).length c232_2] from (k31_mkF _ _ (⟨(rd_T31 l1 x19_1).f0, (rd_T31 l1 x19_1).f1, (rd_T31 l1 x19_1).f2⟩ : S31) (Kd.V_reads' (Kd.V_mono (ok' := (fun k_ => ((P0_ k_ ∨ P1_ k_) ∨ w.heap.size ≤ k_) ∧ k_ ≠ gb223 ∧ k_ ≠ gb230)) (HL232_2.out) (fun k_ hk => ⟨hk.1, ⟨hk.2.1, hk.2.2⟩⟩))).2.1 (Kd.V_F (Kd.V_mono (ok' := (fun k_ => ((P0_ k_ ∨ P1_ k_) ∨ w.heap.size ≤ k_) ∧ k_ ≠ gb223 ∧ k_ ≠ gb230)) (HL232_2.out) (fun k_ hk => ⟨hk.1, ⟨hk.2.1, hk.2.2⟩⟩))))) (Reps.none _ _))))
                intro v234 w21 ho22 hb hg_ hnew_
                have HS3_ := (hb.cell (World.block_lt_of_cell? _ _ (hHeld.2.2.2.1))).trans (hHeld.2.2.2.1)
                have HS4_ := (hb.cell (World.block_lt_of_cell? _ _ (hHeld.2.2.2.2.1))).trans (hHeld.2.2.2.2.1)
                have HS5_ := (hb.cell (World.block_lt_of_cell? _ _ (hHeld.2.2.2.2.2.1))).trans (hHeld.2.2.2.2.2.1)
                have HS6_ := (hb.cell (World.block_lt_of_cell? _ _ (hHeld.2.2.2.2.2.2.1))).trans (hHeld.2.2.2.2.2.2.1)
                have HS7_ := (hb.cell (World.block_lt_of_cell? _ _ (hHeld.2.2.2.2.2.2.2.1))).trans (hHeld.2.2.2.2.2.2.2.1)
                have HS8_ := (hb.cell (World.block_lt_of_cell? _ _ (hHeld.2.2.2.2.2.2.2.2))).trans (hHeld.2.2.2.2.2.2.2.2)
                clear hg_ hnew_
                (first | rw [← Ny233.out] at ho22 | (simp only [Int.reduceToNat] at ho22; rw [← Ny233.out] at ho22))
                have n0_ := Aside0.mk (Kd.V_elder' (by (with_reducible repeat (first | apply Kd.V_alloc | apply Kd.V_drewN | apply Kd.V_drew)); exact HO_0.out) (by first | exact Kd.N_base ho22 | exact Kd.R_base ho22) hb)
                have n1_ := Aside0.mk (Kd.V_elder' (by (with_reducible repeat (first | apply Kd.V_alloc | apply Kd.V_drewN | apply Kd.V_drew)); exact HO_1.out) (by first | exact Kd.N_base ho22 | exact Kd.R_base ho22) hb)
                have n2_ := Aside0.mk (Kd.V_elder' (by (with_reducible repeat (first | apply Kd.V_alloc | apply Kd.V_drewN | apply Kd.V_drew)); exact HO_231002.out) (by first | exact Kd.N_base ho22 | exact Kd.R_base ho22) hb)
                have n3_ := Aside0.mk (Kd.V_elder' (by (with_reducible repeat (first | apply Kd.V_alloc | apply Kd.V_drewN | apply Kd.V_drew)); exact HL231_2.out) (by first | exact Kd.N_base ho22 | exact Kd.R_base ho22) hb)
                have n4_ := Aside0.mk (Kd.V_elder' (by (with_reducible repeat (first | apply Kd.V_alloc | apply Kd.V_drewN | apply Kd.V_drew)); exact HL232_2.out) (by first | exact Kd.N_base ho22 | exact Kd.R_base ho22) hb)
                have n5_ := Aside0.mk (Kd.N_lower ho22 (below_size (by repeat (first | (with_reducible first | exact HB.out | apply below_alloc | apply pw_below_drewN | apply below_drew1 | refine below_set ?_ GE223.out | refine below_set ?_ GE230.out) | exact HB.out))))
                have n6_ := Aside0.mk (blk_below (g := gb223) (o := .cells #[.int .i64 0, .int .i64 0, .slice none 0 0] 31 (0, 0)) (by (with_reducible repeat (first | refine blk_drewN ?_ _ | refine blk_drew ?_ | refine blk_alloc ?_ _)); exact BK223.out) hb)
                have n7_ := Aside0.mk (blk_below (g := gb230) (o := .cells #[.int .i64 x231000_1, .int .i64 x231001_1, u231002] 31 (0, 0)) (by (with_reducible repeat (first | refine blk_drewN ?_ _ | refine blk_drew ?_ | refine blk_alloc ?_ _)); exact BK230.out) hb)
                have n8_ := Aside0.mk (Kd.C_below (by repeat (first | (with_reducible exact HR231_2.out) | (with_reducible refine Kd.C_alloc ?_ _) | (with_reducible refine Kd.C_drewN ?_ _) | (with_reducible refine Kd.C_drew ?_) | exact HR231_2.out)) hb)
                have n9_ := Aside0.mk (Kd.C_below (by repeat (first | (with_reducible exact HR232_2.out) | (with_reducible refine Kd.C_alloc ?_ _) | (with_reducible refine Kd.C_drewN ?_ _) | (with_reducible refine Kd.C_drew ?_) | exact HR232_2.out)) hb)
                have n10_ := Aside0.mk (below_step (by repeat (first | (with_reducible first | exact HB.out | apply below_alloc | apply pw_below_drewN | apply below_drew1 | refine below_set ?_ GE223.out | refine below_set ?_ GE230.out) | exact HB.out)) hb)
                clear HO_0
                clear HO_1
                clear HO_231002
                clear HL231_2
                clear HL232_2
                clear BK223
                clear BK230
                clear HR231_2
                clear HR232_2
                clear HB
                have HO_0 := n0_
                have HO_1 := n1_
                have HO_231002 := n2_
                have HL231_2 := n3_
                have HL232_2 := n4_
                have HO235 := n5_
                have BK223 := n6_
                have BK230 := n7_
                have HR231_2 := n8_
                have HR232_2 := n9_
                have HB := n10_
                clear n0_ n1_ n2_ n3_ n4_ n5_ n6_ n7_ n8_ n9_ n10_
                clear hb ho22
                obtain ⟨Ao23, co23, eo23⟩ := Kd.N_slice HO235.out
                (first | subst eo23 | (injection eo23 with f1_ f2_ f3_; have f4_ := f1_.symm; have f5_ := f3_.symm; clear f1_ f2_ f3_; subst f4_; subst f5_))
                refine hK.out _ _ ⟨(blk_cell BK230.out 0).trans rfl, (blk_cell BK230.out 1).trans rfl, (blk_cell BK230.out 2).trans rfl, HS3_, HS4_, HS5_, HS6_, HS7_, HS8_⟩ (fun hHeld => ?_)
                clear hK K
                refine norm_ (a' := ?_) ?_ ?_
                rotate_left
                · show Act.put _ (some 31) _ = _
                  simp only [Act.put, List.setIfInBounds_toArray, List.set_cons_zero, List.set_cons_succ, i64_w, i32_w]
                  rfl
                refine one_ (i := 10) (N := some 32) #[true, true, true, true, true, true, true, true, true, true, true, false, false, false, false, false] rfl rfl (one_of HT_.out (by kernel_rfl)) (by decide) (fun K hK => ?_)
                refine goes_ Try.func89 (by kernel_rfl) rfl #[.int .i64 6, .slice Ao23 y233.length co23] (by rfl) rfl rfl (by (try simp only [List.map_toArray, List.map_cons, List.map_nil]); first | done | rfl | (simp only [List.length_drop, List.length_take]; rfl)) ?_
                with_reducible refine (impl_ex.calls 6 (fun k_ => (((P0_ k_ ∨ P1_ k_) ∨ w.heap.size ≤ k_) ∧ (k_ ≠ gb223 ∧ k_ ≠ gb230))) _ _ y233 t236 t237 t238 _ ?side1 A17.out).mono ?_
                (case side1 => exact Kd.N_V (HO235.out))
                rintro e w24 ⟨v239, rfl, ho0, hb⟩
                have HS3_ := (hb.cell (World.block_lt_of_cell? _ _ (hHeld.2.2.2.1))).trans (hHeld.2.2.2.1)
                have HS4_ := (hb.cell (World.block_lt_of_cell? _ _ (hHeld.2.2.2.2.1))).trans (hHeld.2.2.2.2.1)
                have HS5_ := (hb.cell (World.block_lt_of_cell? _ _ (hHeld.2.2.2.2.2.1))).trans (hHeld.2.2.2.2.2.1)
                have HS6_ := (hb.cell (World.block_lt_of_cell? _ _ (hHeld.2.2.2.2.2.2.1))).trans (hHeld.2.2.2.2.2.2.1)
                have HS7_ := (hb.cell (World.block_lt_of_cell? _ _ (hHeld.2.2.2.2.2.2.2.1))).trans (hHeld.2.2.2.2.2.2.2.1)
                have HS8_ := (hb.cell (World.block_lt_of_cell? _ _ (hHeld.2.2.2.2.2.2.2.2))).trans (hHeld.2.2.2.2.2.2.2.2)
                refine ⟨_, rfl, ?_⟩
                have n0_ := Aside0.mk (Kd.V_below (by (with_reducible repeat (first | apply Kd.V_alloc | apply Kd.V_drewN | apply Kd.V_drew)); exact HO_0.out) hb)
                have n1_ := Aside0.mk (Kd.V_below (by (with_reducible repeat (first | apply Kd.V_alloc | apply Kd.V_drewN | apply Kd.V_drew)); exact HO_1.out) hb)
                have n2_ := Aside0.mk (Kd.V_below (by (with_reducible repeat (first | apply Kd.V_alloc | apply Kd.V_drewN | apply Kd.V_drew)); exact HO_231002.out) hb)
                have n3_ := Aside0.mk (Kd.V_below (by (with_reducible repeat (first | apply Kd.V_alloc | apply Kd.V_drewN | apply Kd.V_drew)); exact HL231_2.out) hb)
                have n4_ := Aside0.mk (Kd.V_below (by (with_reducible repeat (first | apply Kd.V_alloc | apply Kd.V_drewN | apply Kd.V_drew)); exact HL232_2.out) hb)
                have n5_ := Aside0.mk (Kd.N_below (by (with_reducible repeat (first | apply Kd.N_alloc | apply Kd.N_drewN | apply Kd.N_drew)); exact HO235.out) hb)
                have n6_ := Aside0.mk (Kd.V_lower (Kd.V_mono (ok' := fun k_ => ((P0_ k_ ∨ P1_ k_) ∨ w.heap.size ≤ k_) ∧ k_ ≠ gb223 ∧ k_ ≠ gb230) ho0 (fun k_ hk_ => ⟨Or.elim hk_ (fun hs_ => hs_.1) (fun hn_ => (.inr (Nat.le_trans (below_size (by repeat (first | (with_reducible first | exact HB.out | apply below_alloc | apply pw_below_drewN | apply below_drew1 | refine below_set ?_ GE223.out | refine below_set ?_ GE230.out) | exact HB.out))) hn_))), Or.elim hk_ (fun hs_ => hs_.2.1) (fun hn_ => (Kd.freshB (g := gb223) (o := .cells #[.int .i64 0, .int .i64 0, .slice none 0 0] 31 (0, 0)) (by (with_reducible repeat (first | refine blk_drewN ?_ _ | refine blk_drew ?_ | refine blk_alloc ?_ _)); exact BK223.out) k_ hn_)), Or.elim hk_ (fun hs_ => hs_.2.2) (fun hn_ => (Kd.freshB (g := gb230) (o := .cells #[.int .i64 x231000_1, .int .i64 x231001_1, u231002] 31 (0, 0)) (by (with_reducible repeat (first | refine blk_drewN ?_ _ | refine blk_drew ?_ | refine blk_alloc ?_ _)); exact BK230.out) k_ hn_))⟩)) (below_size (by repeat (first | (with_reducible first | exact HB.out | apply below_alloc | apply pw_below_drewN | apply below_drew1 | refine below_set ?_ GE223.out | refine below_set ?_ GE230.out) | exact HB.out))))
                have n7_ := Aside0.mk (blk_below (g := gb223) (o := .cells #[.int .i64 0, .int .i64 0, .slice none 0 0] 31 (0, 0)) (by (with_reducible repeat (first | refine blk_drewN ?_ _ | refine blk_drew ?_ | refine blk_alloc ?_ _)); exact BK223.out) hb)
                have n8_ := Aside0.mk (blk_below (g := gb230) (o := .cells #[.int .i64 x231000_1, .int .i64 x231001_1, u231002] 31 (0, 0)) (by (with_reducible repeat (first | refine blk_drewN ?_ _ | refine blk_drew ?_ | refine blk_alloc ?_ _)); exact BK230.out) hb)
                have n9_ := Aside0.mk (Kd.C_below (by repeat (first | (with_reducible exact HR231_2.out) | (with_reducible refine Kd.C_alloc ?_ _) | (with_reducible refine Kd.C_drewN ?_ _) | (with_reducible refine Kd.C_drew ?_) | exact HR231_2.out)) hb)
                have n10_ := Aside0.mk (Kd.C_below (by repeat (first | (with_reducible exact HR232_2.out) | (with_reducible refine Kd.C_alloc ?_ _) | (with_reducible refine Kd.C_drewN ?_ _) | (with_reducible refine Kd.C_drew ?_) | exact HR232_2.out)) hb)
                have n11_ := Aside0.mk (below_step (by repeat (first | (with_reducible first | exact HB.out | apply below_alloc | apply pw_below_drewN | apply below_drew1 | refine below_set ?_ GE223.out | refine below_set ?_ GE230.out) | exact HB.out)) hb)
                clear HO_0
                clear HO_1
                clear HO_231002
                clear HL231_2
                clear HL232_2
                clear HO235
                clear BK223
                clear BK230
                clear HR231_2
                clear HR232_2
                clear HB
                have HO_0 := n0_
                have HO_1 := n1_
                have HO_231002 := n2_
                have HL231_2 := n3_
                have HL232_2 := n4_
                have HO235 := n5_
                have HO240 := n6_
                have BK223 := n7_
                have BK230 := n8_
                have HR231_2 := n9_
                have HR232_2 := n10_
                have HB := n11_
                clear n0_ n1_ n2_ n3_ n4_ n5_ n6_ n7_ n8_ n9_ n10_ n11_
                (try clear hb)
                (try clear hb2)
                (try clear hk)
                (try clear hi)
                (try clear ho0)
                obtain ⟨Ao25, co25, eo25⟩ := Kd.V_slice HO240.out
                (first | subst eo25 | (injection eo25 with f1_ f2_ f3_; have f4_ := f1_.symm; have f5_ := f3_.symm; clear f1_ f2_ f3_; subst f4_; subst f5_))
                refine hK.out _ _ ⟨(blk_cell BK230.out 0).trans rfl, (blk_cell BK230.out 1).trans rfl, (blk_cell BK230.out 2).trans rfl, HS3_, HS4_, HS5_, HS6_, HS7_, HS8_⟩ (fun hHeld => ?_)
                clear hK K
                refine norm_ (a' := ?_) ?_ ?_
                rotate_left
                · show Act.put _ (some 32) _ = _
                  simp only [Act.put, List.setIfInBounds_toArray, List.set_cons_zero, List.set_cons_succ, i64_w, i32_w]
                  rfl
                refine one_ (i := 11) (N := some 33) #[true, true, true, true, true, true, true, true, true, true, true, true, false, false, false, false] rfl rfl (one_of HT_.out (by kernel_rfl)) (by decide) (fun K hK => ?_)
                refine Kd.N_lit_step k31 _ 31 ?hg (N' := 33) ?hd (xs := ([(⟨t236, t237, t238⟩ : S31)] : List (S31))) (inner := [.int .i64 t236, .int .i64 t237, .slice Ao25 t238.length co25]) (ok := (fun k_ => ((P0_ k_ ∨ P1_ k_) ∨ w.heap.size ≤ k_) ∧ k_ ≠ gb223 ∧ k_ ≠ gb230)) (okp := (fun k_ => ((P0_ k_ ∨ P1_ k_) ∨ w.heap.size ≤ k_) ∧ k_ ≠ gb223 ∧ k_ ≠ gb230)) ?hr ?hp (fun _ hk => hk) ((show ∀ k_, w24.heap.size ≤ k_ → (fun k_ => ((P0_ k_ ∨ P1_ k_) ∨ w.heap.size ≤ k_) ∧ k_ ≠ gb223 ∧ k_ ≠ gb230) k_ from fun k_ hk => ⟨(.inr (Nat.le_trans (below_size (by repeat (first | (with_reducible first | exact HB.out | apply below_alloc | apply pw_below_drewN | apply below_drew1 | refine below_set ?_ GE223.out | refine below_set ?_ GE230.out) | exact HB.out))) hk)), Kd.freshB (g := gb223) (o := .cells #[.int .i64 0, .int .i64 0, .slice none 0 0] 31 (0, 0)) (by (with_reducible repeat (first | refine blk_drewN ?_ _ | refine blk_drew ?_ | refine blk_alloc ?_ _)); exact BK223.out) k_ hk, Kd.freshB (g := gb230) (o := .cells #[.int .i64 x231000_1, .int .i64 x231001_1, u231002] 31 (0, 0)) (by (with_reducible repeat (first | refine blk_drewN ?_ _ | refine blk_drew ?_ | refine blk_alloc ?_ _)); exact BK230.out) k_ hk⟩) _ (Nat.le_refl _)) (Below.refl _ _) (Nat.le_refl _) (by simp) ?_; (case hd => rfl); (case hg => rfl); (case hr => first | (go_simp; done) | (go_simp; rfl)); (case hp => exact (Reps.c3 (show Kd.FK k31 _ _ (⟨t236, t237, t238⟩ : S31) [.int .i64 t236, .int .i64 t237, .slice Ao25 t238.length co25] from (k31_mkF _ _ (⟨t236, t237, t238⟩ : S31) (Kd.V_reads' (Kd.V_mono (ok' := (fun k_ => ((P0_ k_ ∨ P1_ k_) ∨ w.heap.size ≤ k_) ∧ k_ ≠ gb223 ∧ k_ ≠ gb230)) (HO240.out) (fun k_ hk => ⟨hk.1, ⟨hk.2.1, hk.2.2⟩⟩))).2.1 (Kd.V_F (Kd.V_mono (ok' := (fun k_ => ((P0_ k_ ∨ P1_ k_) ∨ w.heap.size ≤ k_) ∧ k_ ≠ gb223 ∧ k_ ≠ gb230)) (HO240.out) (fun k_ hk => ⟨hk.1, ⟨hk.2.1, hk.2.2⟩⟩))))) (Reps.none _ _)))
                intro v242 w26 ho27 hb hg_ hnew_
                have HS3_ := (hb.cell (World.block_lt_of_cell? _ _ (hHeld.2.2.2.1))).trans (hHeld.2.2.2.1)
                have HS4_ := (hb.cell (World.block_lt_of_cell? _ _ (hHeld.2.2.2.2.1))).trans (hHeld.2.2.2.2.1)
                have HS5_ := (hb.cell (World.block_lt_of_cell? _ _ (hHeld.2.2.2.2.2.1))).trans (hHeld.2.2.2.2.2.1)
                have HS6_ := (hb.cell (World.block_lt_of_cell? _ _ (hHeld.2.2.2.2.2.2.1))).trans (hHeld.2.2.2.2.2.2.1)
                have HS7_ := (hb.cell (World.block_lt_of_cell? _ _ (hHeld.2.2.2.2.2.2.2.1))).trans (hHeld.2.2.2.2.2.2.2.1)
                have HS8_ := (hb.cell (World.block_lt_of_cell? _ _ (hHeld.2.2.2.2.2.2.2.2))).trans (hHeld.2.2.2.2.2.2.2.2)
                clear hg_ hnew_
                (first | rw [← Ny241.out] at ho27 | (simp only [Int.reduceToNat] at ho27; rw [← Ny241.out] at ho27))
                have n0_ := Aside0.mk (Kd.V_elder' (by (with_reducible repeat (first | apply Kd.V_alloc | apply Kd.V_drewN | apply Kd.V_drew)); exact HO_0.out) (by first | exact Kd.N_base ho27 | exact Kd.R_base ho27) hb)
                have n1_ := Aside0.mk (Kd.V_elder' (by (with_reducible repeat (first | apply Kd.V_alloc | apply Kd.V_drewN | apply Kd.V_drew)); exact HO_1.out) (by first | exact Kd.N_base ho27 | exact Kd.R_base ho27) hb)
                have n2_ := Aside0.mk (Kd.V_elder' (by (with_reducible repeat (first | apply Kd.V_alloc | apply Kd.V_drewN | apply Kd.V_drew)); exact HO_231002.out) (by first | exact Kd.N_base ho27 | exact Kd.R_base ho27) hb)
                have n3_ := Aside0.mk (Kd.V_elder' (by (with_reducible repeat (first | apply Kd.V_alloc | apply Kd.V_drewN | apply Kd.V_drew)); exact HL231_2.out) (by first | exact Kd.N_base ho27 | exact Kd.R_base ho27) hb)
                have n4_ := Aside0.mk (Kd.V_elder' (by (with_reducible repeat (first | apply Kd.V_alloc | apply Kd.V_drewN | apply Kd.V_drew)); exact HL232_2.out) (by first | exact Kd.N_base ho27 | exact Kd.R_base ho27) hb)
                have n5_ := Aside0.mk (Kd.N_elder' (by (with_reducible repeat (first | apply Kd.N_alloc | apply Kd.N_drewN | apply Kd.N_drew)); exact HO235.out) (by first | exact Kd.N_base ho27 | exact Kd.R_base ho27) hb)
                have n6_ := Aside0.mk (Kd.V_elder' (by (with_reducible repeat (first | apply Kd.V_alloc | apply Kd.V_drewN | apply Kd.V_drew)); exact HO240.out) (by first | exact Kd.N_base ho27 | exact Kd.R_base ho27) hb)
                have n7_ := Aside0.mk (Kd.N_lower ho27 (below_size (by repeat (first | (with_reducible first | exact HB.out | apply below_alloc | apply pw_below_drewN | apply below_drew1 | refine below_set ?_ GE223.out | refine below_set ?_ GE230.out) | exact HB.out))))
                have n8_ := Aside0.mk (blk_below (g := gb223) (o := .cells #[.int .i64 0, .int .i64 0, .slice none 0 0] 31 (0, 0)) (by (with_reducible repeat (first | refine blk_drewN ?_ _ | refine blk_drew ?_ | refine blk_alloc ?_ _)); exact BK223.out) hb)
                have n9_ := Aside0.mk (blk_below (g := gb230) (o := .cells #[.int .i64 x231000_1, .int .i64 x231001_1, u231002] 31 (0, 0)) (by (with_reducible repeat (first | refine blk_drewN ?_ _ | refine blk_drew ?_ | refine blk_alloc ?_ _)); exact BK230.out) hb)
                have n10_ := Aside0.mk (Kd.C_below (by repeat (first | (with_reducible exact HR231_2.out) | (with_reducible refine Kd.C_alloc ?_ _) | (with_reducible refine Kd.C_drewN ?_ _) | (with_reducible refine Kd.C_drew ?_) | exact HR231_2.out)) hb)
                have n11_ := Aside0.mk (Kd.C_below (by repeat (first | (with_reducible exact HR232_2.out) | (with_reducible refine Kd.C_alloc ?_ _) | (with_reducible refine Kd.C_drewN ?_ _) | (with_reducible refine Kd.C_drew ?_) | exact HR232_2.out)) hb)
                have n12_ := Aside0.mk (below_step (by repeat (first | (with_reducible first | exact HB.out | apply below_alloc | apply pw_below_drewN | apply below_drew1 | refine below_set ?_ GE223.out | refine below_set ?_ GE230.out) | exact HB.out)) hb)
                clear HO_0
                clear HO_1
                clear HO_231002
                clear HL231_2
                clear HL232_2
                clear HO235
                clear HO240
                clear BK223
                clear BK230
                clear HR231_2
                clear HR232_2
                clear HB
                have HO_0 := n0_
                have HO_1 := n1_
                have HO_231002 := n2_
                have HL231_2 := n3_
                have HL232_2 := n4_
                have HO235 := n5_
                have HO240 := n6_
                have HO243 := n7_
                have BK223 := n8_
                have BK230 := n9_
                have HR231_2 := n10_
                have HR232_2 := n11_
                have HB := n12_
                clear n0_ n1_ n2_ n3_ n4_ n5_ n6_ n7_ n8_ n9_ n10_ n11_ n12_
                clear hb ho27
                obtain ⟨Ao28, co28, eo28⟩ := Kd.N_slice HO243.out
                (first | subst eo28 | (injection eo28 with f1_ f2_ f3_; have f4_ := f1_.symm; have f5_ := f3_.symm; clear f1_ f2_ f3_; subst f4_; subst f5_))
                refine hK.out _ _ ⟨(blk_cell BK230.out 0).trans rfl, (blk_cell BK230.out 1).trans rfl, (blk_cell BK230.out 2).trans rfl, HS3_, HS4_, HS5_, HS6_, HS7_, HS8_⟩ (fun hHeld => ?_)
                clear hK K
                refine norm_ (a' := ?_) ?_ ?_
                rotate_left
                · show Act.put _ (some 33) _ = _
                  simp only [Act.put, List.setIfInBounds_toArray, List.set_cons_zero, List.set_cons_succ, i64_w, i32_w]
                  rfl
                refine one_ (i := 12) (N := some 34) #[true, true, true, true, true, true, true, true, true, true, true, true, true, false, false, false] rfl rfl (one_of HT_.out (by kernel_rfl)) (by decide) (fun K hK => ?_)
                refine goes_ Try.func89 (by kernel_rfl) rfl #[.int .i64 3, .slice Ao28 y241.length co28] (by rfl) rfl rfl (by (try simp only [List.map_toArray, List.map_cons, List.map_nil]); first | done | rfl | (simp only [List.length_drop, List.length_take]; rfl)) ?_
                with_reducible refine (impl_ex.calls 3 (fun k_ => (((P0_ k_ ∨ P1_ k_) ∨ w.heap.size ≤ k_) ∧ (k_ ≠ gb223 ∧ k_ ≠ gb230))) _ _ y241 t244 t245 t246 _ ?side1 A18.out).mono ?_
                (case side1 => exact Kd.N_V (HO243.out))
                rintro e w29 ⟨v247, rfl, ho0, hb⟩
                have HS3_ := (hb.cell (World.block_lt_of_cell? _ _ (hHeld.2.2.2.1))).trans (hHeld.2.2.2.1)
                have HS4_ := (hb.cell (World.block_lt_of_cell? _ _ (hHeld.2.2.2.2.1))).trans (hHeld.2.2.2.2.1)
                have HS5_ := (hb.cell (World.block_lt_of_cell? _ _ (hHeld.2.2.2.2.2.1))).trans (hHeld.2.2.2.2.2.1)
                have HS6_ := (hb.cell (World.block_lt_of_cell? _ _ (hHeld.2.2.2.2.2.2.1))).trans (hHeld.2.2.2.2.2.2.1)
                have HS7_ := (hb.cell (World.block_lt_of_cell? _ _ (hHeld.2.2.2.2.2.2.2.1))).trans (hHeld.2.2.2.2.2.2.2.1)
                have HS8_ := (hb.cell (World.block_lt_of_cell? _ _ (hHeld.2.2.2.2.2.2.2.2))).trans (hHeld.2.2.2.2.2.2.2.2)
                refine ⟨_, rfl, ?_⟩
                have n0_ := Aside0.mk (Kd.V_below (by (with_reducible repeat (first | apply Kd.V_alloc | apply Kd.V_drewN | apply Kd.V_drew)); exact HO_0.out) hb)
                have n1_ := Aside0.mk (Kd.V_below (by (with_reducible repeat (first | apply Kd.V_alloc | apply Kd.V_drewN | apply Kd.V_drew)); exact HO_1.out) hb)
                have n2_ := Aside0.mk (Kd.V_below (by (with_reducible repeat (first | apply Kd.V_alloc | apply Kd.V_drewN | apply Kd.V_drew)); exact HO_231002.out) hb)
                have n3_ := Aside0.mk (Kd.V_below (by (with_reducible repeat (first | apply Kd.V_alloc | apply Kd.V_drewN | apply Kd.V_drew)); exact HL231_2.out) hb)
                have n4_ := Aside0.mk (Kd.V_below (by (with_reducible repeat (first | apply Kd.V_alloc | apply Kd.V_drewN | apply Kd.V_drew)); exact HL232_2.out) hb)
                have n5_ := Aside0.mk (Kd.N_below (by (with_reducible repeat (first | apply Kd.N_alloc | apply Kd.N_drewN | apply Kd.N_drew)); exact HO235.out) hb)
                have n6_ := Aside0.mk (Kd.V_below (by (with_reducible repeat (first | apply Kd.V_alloc | apply Kd.V_drewN | apply Kd.V_drew)); exact HO240.out) hb)
                have n7_ := Aside0.mk (Kd.N_below (by (with_reducible repeat (first | apply Kd.N_alloc | apply Kd.N_drewN | apply Kd.N_drew)); exact HO243.out) hb)
                have n8_ := Aside0.mk (Kd.V_lower (Kd.V_mono (ok' := fun k_ => ((P0_ k_ ∨ P1_ k_) ∨ w.heap.size ≤ k_) ∧ k_ ≠ gb223 ∧ k_ ≠ gb230) ho0 (fun k_ hk_ => ⟨Or.elim hk_ (fun hs_ => hs_.1) (fun hn_ => (.inr (Nat.le_trans (below_size (by repeat (first | (with_reducible first | exact HB.out | apply below_alloc | apply pw_below_drewN | apply below_drew1 | refine below_set ?_ GE223.out | refine below_set ?_ GE230.out) | exact HB.out))) hn_))), Or.elim hk_ (fun hs_ => hs_.2.1) (fun hn_ => (Kd.freshB (g := gb223) (o := .cells #[.int .i64 0, .int .i64 0, .slice none 0 0] 31 (0, 0)) (by (with_reducible repeat (first | refine blk_drewN ?_ _ | refine blk_drew ?_ | refine blk_alloc ?_ _)); exact BK223.out) k_ hn_)), Or.elim hk_ (fun hs_ => hs_.2.2) (fun hn_ => (Kd.freshB (g := gb230) (o := .cells #[.int .i64 x231000_1, .int .i64 x231001_1, u231002] 31 (0, 0)) (by (with_reducible repeat (first | refine blk_drewN ?_ _ | refine blk_drew ?_ | refine blk_alloc ?_ _)); exact BK230.out) k_ hn_))⟩)) (below_size (by repeat (first | (with_reducible first | exact HB.out | apply below_alloc | apply pw_below_drewN | apply below_drew1 | refine below_set ?_ GE223.out | refine below_set ?_ GE230.out) | exact HB.out))))
                have n9_ := Aside0.mk (blk_below (g := gb223) (o := .cells #[.int .i64 0, .int .i64 0, .slice none 0 0] 31 (0, 0)) (by (with_reducible repeat (first | refine blk_drewN ?_ _ | refine blk_drew ?_ | refine blk_alloc ?_ _)); exact BK223.out) hb)
                have n10_ := Aside0.mk (blk_below (g := gb230) (o := .cells #[.int .i64 x231000_1, .int .i64 x231001_1, u231002] 31 (0, 0)) (by (with_reducible repeat (first | refine blk_drewN ?_ _ | refine blk_drew ?_ | refine blk_alloc ?_ _)); exact BK230.out) hb)
                have n11_ := Aside0.mk (Kd.C_below (by repeat (first | (with_reducible exact HR231_2.out) | (with_reducible refine Kd.C_alloc ?_ _) | (with_reducible refine Kd.C_drewN ?_ _) | (with_reducible refine Kd.C_drew ?_) | exact HR231_2.out)) hb)
                have n12_ := Aside0.mk (Kd.C_below (by repeat (first | (with_reducible exact HR232_2.out) | (with_reducible refine Kd.C_alloc ?_ _) | (with_reducible refine Kd.C_drewN ?_ _) | (with_reducible refine Kd.C_drew ?_) | exact HR232_2.out)) hb)
                have n13_ := Aside0.mk (below_step (by repeat (first | (with_reducible first | exact HB.out | apply below_alloc | apply pw_below_drewN | apply below_drew1 | refine below_set ?_ GE223.out | refine below_set ?_ GE230.out) | exact HB.out)) hb)
                clear HO_0
                clear HO_1
                clear HO_231002
                clear HL231_2
                clear HL232_2
                clear HO235
                clear HO240
                clear HO243
                clear BK223
                clear BK230
                clear HR231_2
                clear HR232_2
                clear HB
                have HO_0 := n0_
                have HO_1 := n1_
                have HO_231002 := n2_
                have HL231_2 := n3_
                have HL232_2 := n4_
                have HO235 := n5_
                have HO240 := n6_
                have HO243 := n7_
                have HO248 := n8_
                have BK223 := n9_
                have BK230 := n10_
                have HR231_2 := n11_
                have HR232_2 := n12_
                have HB := n13_
                clear n0_ n1_ n2_ n3_ n4_ n5_ n6_ n7_ n8_ n9_ n10_ n11_ n12_ n13_
                (try clear hb)
                (try clear hb2)
                (try clear hk)
                (try clear hi)
                (try clear ho0)
                obtain ⟨Ao30, co30, eo30⟩ := Kd.V_slice HO_231002.out
                (first | subst eo30 | (injection eo30 with f1_ f2_ f3_; have f4_ := f1_.symm; have f5_ := f3_.symm; clear f1_ f2_ f3_; subst f4_; subst f5_))
                obtain ⟨Ao31, co31, eo31⟩ := Kd.V_slice HO248.out
                (first | subst eo31 | (injection eo31 with f1_ f2_ f3_; have f4_ := f1_.symm; have f5_ := f3_.symm; clear f1_ f2_ f3_; subst f4_; subst f5_))
                refine hK.out _ _ ⟨(blk_cell BK230.out 0).trans rfl, (blk_cell BK230.out 1).trans rfl, (blk_cell BK230.out 2).trans rfl, HS3_, HS4_, HS5_, HS6_, HS7_, HS8_⟩ (fun hHeld => ?_)
                clear hK K
                refine norm_ (a' := ?_) ?_ ?_
                rotate_left
                · show Act.put _ (some 34) _ = _
                  simp only [Act.put, List.setIfInBounds_toArray, List.set_cons_zero, List.set_cons_succ, i64_w, i32_w]
                  rfl
                refine one_ (i := 13) (N := some 35) #[true, true, true, true, true, true, true, true, true, true, true, true, true, true, false, false] rfl rfl (one_of HT_.out (by kernel_rfl)) (by decide) (fun K hK => ?_)
                refine Kd.N_lit_step k31 _ 31 ?hg (N' := 35) ?hd (xs := ([(⟨x231000_1, x231001_1, x231002_1⟩ : S31), (⟨t244, t245, t246⟩ : S31)] : List (S31))) (inner := [.int .i64 x231000_1, .int .i64 x231001_1, .slice Ao30 x231002_1.length co30, .int .i64 t244, .int .i64 t245, .slice Ao31 t246.length co31]) (ok := (fun k_ => ((P0_ k_ ∨ P1_ k_) ∨ w.heap.size ≤ k_) ∧ k_ ≠ gb223 ∧ k_ ≠ gb230)) (okp := (fun k_ => ((P0_ k_ ∨ P1_ k_) ∨ w.heap.size ≤ k_) ∧ k_ ≠ gb223 ∧ k_ ≠ gb230)) ?hr ?hp (fun _ hk => hk) ((show ∀ k_, w29.heap.size ≤ k_ → (fun k_ => ((P0_ k_ ∨ P1_ k_) ∨ w.heap.size ≤ k_) ∧ k_ ≠ gb223 ∧ k_ ≠ gb230) k_ from fun k_ hk => ⟨(.inr (Nat.le_trans (below_size (by repeat (first | (with_reducible first | exact HB.out | apply below_alloc | apply pw_below_drewN | apply below_drew1 | refine below_set ?_ GE223.out | refine below_set ?_ GE230.out) | exact HB.out))) hk)), Kd.freshB (g := gb223) (o := .cells #[.int .i64 0, .int .i64 0, .slice none 0 0] 31 (0, 0)) (by (with_reducible repeat (first | refine blk_drewN ?_ _ | refine blk_drew ?_ | refine blk_alloc ?_ _)); exact BK223.out) k_ hk, Kd.freshB (g := gb230) (o := .cells #[.int .i64 x231000_1, .int .i64 x231001_1, .slice Ao30 x231002_1.length co30] 31 (0, 0)) (by (with_reducible repeat (first | refine blk_drewN ?_ _ | refine blk_drew ?_ | refine blk_alloc ?_ _)); exact BK230.out) k_ hk⟩) _ (Nat.le_refl _)) (Below.refl _ _) (Nat.le_refl _) (by simp) ?_; (case hd => rfl); (case hg => rfl); (case hr => first | (go_simp; done) | (go_simp; rfl)); (case hp => exact (Reps.c3 (show Kd.FK k31 _ _ (⟨x231000_1, x231001_1, x231002_1⟩ : S31) [.int .i64 x231000_1, .int .i64 x231001_1, .slice Ao30 x231002_1.length co30] from (k31_mkF _ _ (⟨x231000_1, x231001_1, x231002_1⟩ : S31) (Kd.V_reads' (Kd.V_mono (ok' := (fun k_ => ((P0_ k_ ∨ P1_ k_) ∨ w.heap.size ≤ k_) ∧ k_ ≠ gb223 ∧ k_ ≠ gb230)) (HO_231002.out) (fun k_ hk => ⟨hk.1.1.1, ⟨hk.1.1.2.1, hk.1.1.2.2⟩⟩))).2.1 (Kd.V_F (Kd.V_mono (ok' := (fun k_ => ((P0_ k_ ∨ P1_ k_) ∨ w.heap.size ≤ k_) ∧ k_ ≠ gb223 ∧ k_ ≠ gb230)) (HO_231002.out) (fun k_ hk => ⟨hk.1.1.1, ⟨hk.1.1.2.1, hk.1.1.2.2⟩⟩))))) (Reps.c3 (show Kd.FK k31 _ _ (⟨t244, t245, t246⟩ : S31) [.int .i64 t244, .int .i64 t245, .slice Ao31 t246.length co31] from (k31_mkF _ _ (⟨t244, t245, t246⟩ : S31) (Kd.V_reads' (Kd.V_mono (ok' := (fun k_ => ((P0_ k_ ∨ P1_ k_) ∨ w.heap.size ≤ k_) ∧ k_ ≠ gb223 ∧ k_ ≠ gb230)) (HO248.out) (fun k_ hk => ⟨hk.1, ⟨hk.2.1, hk.2.2⟩⟩))).2.1 (Kd.V_F (Kd.V_mono (ok' := (fun k_ => ((P0_ k_ ∨ P1_ k_) ∨ w.heap.size ≤ k_) ∧ k_ ≠ gb223 ∧ k_ ≠ gb230)) (HO248.out) (fun k_ hk => ⟨hk.1, ⟨hk.2.1, hk.2.2⟩⟩))))) (Reps.none _ _))))
                intro v250 w32 ho33 hb hg_ hnew_
                have HS3_ := (hb.cell (World.block_lt_of_cell? _ _ (hHeld.2.2.2.1))).trans (hHeld.2.2.2.1)
                have HS4_ := (hb.cell (World.block_lt_of_cell? _ _ (hHeld.2.2.2.2.1))).trans (hHeld.2.2.2.2.1)
                have HS5_ := (hb.cell (World.block_lt_of_cell? _ _ (hHeld.2.2.2.2.2.1))).trans (hHeld.2.2.2.2.2.1)
                have HS6_ := (hb.cell (World.block_lt_of_cell? _ _ (hHeld.2.2.2.2.2.2.1))).trans (hHeld.2.2.2.2.2.2.1)
                have HS7_ := (hb.cell (World.block_lt_of_cell? _ _ (hHeld.2.2.2.2.2.2.2.1))).trans (hHeld.2.2.2.2.2.2.2.1)
                have HS8_ := (hb.cell (World.block_lt_of_cell? _ _ (hHeld.2.2.2.2.2.2.2.2))).trans (hHeld.2.2.2.2.2.2.2.2)
                clear hg_ hnew_
                (first | rw [← Ny249.out] at ho33 | (simp only [Int.reduceToNat] at ho33; rw [← Ny249.out] at ho33))
                have n0_ := Aside0.mk (Kd.V_elder' (by (with_reducible repeat (first | apply Kd.V_alloc | apply Kd.V_drewN | apply Kd.V_drew)); exact HO_0.out) (by first | exact Kd.N_base ho33 | exact Kd.R_base ho33) hb)
                have n1_ := Aside0.mk (Kd.V_elder' (by (with_reducible repeat (first | apply Kd.V_alloc | apply Kd.V_drewN | apply Kd.V_drew)); exact HO_1.out) (by first | exact Kd.N_base ho33 | exact Kd.R_base ho33) hb)
                have n2_ := Aside0.mk (Kd.V_elder' (by (with_reducible repeat (first | apply Kd.V_alloc | apply Kd.V_drewN | apply Kd.V_drew)); exact HO_231002.out) (by first | exact Kd.N_base ho33 | exact Kd.R_base ho33) hb)
                have n3_ := Aside0.mk (Kd.V_elder' (by (with_reducible repeat (first | apply Kd.V_alloc | apply Kd.V_drewN | apply Kd.V_drew)); exact HL231_2.out) (by first | exact Kd.N_base ho33 | exact Kd.R_base ho33) hb)
                have n4_ := Aside0.mk (Kd.V_elder' (by (with_reducible repeat (first | apply Kd.V_alloc | apply Kd.V_drewN | apply Kd.V_drew)); exact HL232_2.out) (by first | exact Kd.N_base ho33 | exact Kd.R_base ho33) hb)
                have n5_ := Aside0.mk (Kd.N_elder' (by (with_reducible repeat (first | apply Kd.N_alloc | apply Kd.N_drewN | apply Kd.N_drew)); exact HO235.out) (by first | exact Kd.N_base ho33 | exact Kd.R_base ho33) hb)
                have n6_ := Aside0.mk (Kd.V_elder' (by (with_reducible repeat (first | apply Kd.V_alloc | apply Kd.V_drewN | apply Kd.V_drew)); exact HO240.out) (by first | exact Kd.N_base ho33 | exact Kd.R_base ho33) hb)
                have n7_ := Aside0.mk (Kd.N_elder' (by (with_reducible repeat (first | apply Kd.N_alloc | apply Kd.N_drewN | apply Kd.N_drew)); exact HO243.out) (by first | exact Kd.N_base ho33 | exact Kd.R_base ho33) hb)
                have n8_ := Aside0.mk (Kd.V_elder' (by (with_reducible repeat (first | apply Kd.V_alloc | apply Kd.V_drewN | apply Kd.V_drew)); exact HO248.out) (by first | exact Kd.N_base ho33 | exact Kd.R_base ho33) hb)
                have n9_ := Aside0.mk (Kd.N_lower ho33 (below_size (by repeat (first | (with_reducible first | exact HB.out | apply below_alloc | apply pw_below_drewN | apply below_drew1 | refine below_set ?_ GE223.out | refine below_set ?_ GE230.out) | exact HB.out))))
                have n10_ := Aside0.mk (blk_below (g := gb223) (o := .cells #[.int .i64 0, .int .i64 0, .slice none 0 0] 31 (0, 0)) (by (with_reducible repeat (first | refine blk_drewN ?_ _ | refine blk_drew ?_ | refine blk_alloc ?_ _)); exact BK223.out) hb)
                have n11_ := Aside0.mk (blk_below (g := gb230) (o := .cells #[.int .i64 x231000_1, .int .i64 x231001_1, .slice Ao30 x231002_1.length co30] 31 (0, 0)) (by (with_reducible repeat (first | refine blk_drewN ?_ _ | refine blk_drew ?_ | refine blk_alloc ?_ _)); exact BK230.out) hb)
                have n12_ := Aside0.mk (Kd.C_below (by repeat (first | (with_reducible exact HR231_2.out) | (with_reducible refine Kd.C_alloc ?_ _) | (with_reducible refine Kd.C_drewN ?_ _) | (with_reducible refine Kd.C_drew ?_) | exact HR231_2.out)) hb)
                have n13_ := Aside0.mk (Kd.C_below (by repeat (first | (with_reducible exact HR232_2.out) | (with_reducible refine Kd.C_alloc ?_ _) | (with_reducible refine Kd.C_drewN ?_ _) | (with_reducible refine Kd.C_drew ?_) | exact HR232_2.out)) hb)
                have n14_ := Aside0.mk (below_step (by repeat (first | (with_reducible first | exact HB.out | apply below_alloc | apply pw_below_drewN | apply below_drew1 | refine below_set ?_ GE223.out | refine below_set ?_ GE230.out) | exact HB.out)) hb)
                clear HO_0
                clear HO_1
                clear HO_231002
                clear HL231_2
                clear HL232_2
                clear HO235
                clear HO240
                clear HO243
                clear HO248
                clear BK223
                clear BK230
                clear HR231_2
                clear HR232_2
                clear HB
                have HO_0 := n0_
                have HO_1 := n1_
                have HO_231002 := n2_
                have HL231_2 := n3_
                have HL232_2 := n4_
                have HO235 := n5_
                have HO240 := n6_
                have HO243 := n7_
                have HO248 := n8_
                have HO251 := n9_
                have BK223 := n10_
                have BK230 := n11_
                have HR231_2 := n12_
                have HR232_2 := n13_
                have HB := n14_
                clear n0_ n1_ n2_ n3_ n4_ n5_ n6_ n7_ n8_ n9_ n10_ n11_ n12_ n13_ n14_
                clear hb ho33
                obtain ⟨Ao34, co34, eo34⟩ := Kd.N_slice HO251.out
                (first | subst eo34 | (injection eo34 with f1_ f2_ f3_; have f4_ := f1_.symm; have f5_ := f3_.symm; clear f1_ f2_ f3_; subst f4_; subst f5_))
                refine hK.out _ _ ⟨(blk_cell BK230.out 0).trans rfl, (blk_cell BK230.out 1).trans rfl, (blk_cell BK230.out 2).trans rfl, HS3_, HS4_, HS5_, HS6_, HS7_, HS8_⟩ (fun hHeld => ?_)
                clear hK K
                refine norm_ (a' := ?_) ?_ ?_
                rotate_left
                · show Act.put _ (some 35) _ = _
                  simp only [Act.put, List.setIfInBounds_toArray, List.set_cons_zero, List.set_cons_succ, i64_w, i32_w]
                  rfl
                refine one_ (i := 14) (N := some 36) #[true, true, true, true, true, true, true, true, true, true, true, true, true, true, true, false] rfl rfl (one_of HT_.out (by kernel_rfl)) (by decide) (fun K hK => ?_)
                refine goes_ Try.func89 (by kernel_rfl) rfl #[.int .i64 4, .slice Ao34 y249.length co34] (by rfl) rfl rfl (by (try simp only [List.map_toArray, List.map_cons, List.map_nil]); first | done | rfl | (simp only [List.length_drop, List.length_take]; rfl)) ?_
                with_reducible refine (impl_ex.calls 4 (fun k_ => (((P0_ k_ ∨ P1_ k_) ∨ w.heap.size ≤ k_) ∧ (k_ ≠ gb223 ∧ k_ ≠ gb230))) _ _ y249 t252 t253 t254 _ ?side1 A19.out).mono ?_
                (case side1 => exact Kd.N_V (HO251.out))
                rintro e w35 ⟨v255, rfl, ho0, hb⟩
                have HS3_ := (hb.cell (World.block_lt_of_cell? _ _ (hHeld.2.2.2.1))).trans (hHeld.2.2.2.1)
                have HS4_ := (hb.cell (World.block_lt_of_cell? _ _ (hHeld.2.2.2.2.1))).trans (hHeld.2.2.2.2.1)
                have HS5_ := (hb.cell (World.block_lt_of_cell? _ _ (hHeld.2.2.2.2.2.1))).trans (hHeld.2.2.2.2.2.1)
                have HS6_ := (hb.cell (World.block_lt_of_cell? _ _ (hHeld.2.2.2.2.2.2.1))).trans (hHeld.2.2.2.2.2.2.1)
                have HS7_ := (hb.cell (World.block_lt_of_cell? _ _ (hHeld.2.2.2.2.2.2.2.1))).trans (hHeld.2.2.2.2.2.2.2.1)
                have HS8_ := (hb.cell (World.block_lt_of_cell? _ _ (hHeld.2.2.2.2.2.2.2.2))).trans (hHeld.2.2.2.2.2.2.2.2)
                refine ⟨_, rfl, ?_⟩
                have n0_ := Aside0.mk (Kd.V_below (by (with_reducible repeat (first | apply Kd.V_alloc | apply Kd.V_drewN | apply Kd.V_drew)); exact HO_0.out) hb)
                have n1_ := Aside0.mk (Kd.V_below (by (with_reducible repeat (first | apply Kd.V_alloc | apply Kd.V_drewN | apply Kd.V_drew)); exact HO_1.out) hb)
                have n2_ := Aside0.mk (Kd.V_below (by (with_reducible repeat (first | apply Kd.V_alloc | apply Kd.V_drewN | apply Kd.V_drew)); exact HO_231002.out) hb)
                have n3_ := Aside0.mk (Kd.V_below (by (with_reducible repeat (first | apply Kd.V_alloc | apply Kd.V_drewN | apply Kd.V_drew)); exact HL231_2.out) hb)
                have n4_ := Aside0.mk (Kd.V_below (by (with_reducible repeat (first | apply Kd.V_alloc | apply Kd.V_drewN | apply Kd.V_drew)); exact HL232_2.out) hb)
                have n5_ := Aside0.mk (Kd.N_below (by (with_reducible repeat (first | apply Kd.N_alloc | apply Kd.N_drewN | apply Kd.N_drew)); exact HO235.out) hb)
                have n6_ := Aside0.mk (Kd.V_below (by (with_reducible repeat (first | apply Kd.V_alloc | apply Kd.V_drewN | apply Kd.V_drew)); exact HO240.out) hb)
                have n7_ := Aside0.mk (Kd.N_below (by (with_reducible repeat (first | apply Kd.N_alloc | apply Kd.N_drewN | apply Kd.N_drew)); exact HO243.out) hb)
                have n8_ := Aside0.mk (Kd.V_below (by (with_reducible repeat (first | apply Kd.V_alloc | apply Kd.V_drewN | apply Kd.V_drew)); exact HO248.out) hb)
                have n9_ := Aside0.mk (Kd.N_below (by (with_reducible repeat (first | apply Kd.N_alloc | apply Kd.N_drewN | apply Kd.N_drew)); exact HO251.out) hb)
                have n10_ := Aside0.mk (Kd.V_lower (Kd.V_mono (ok' := fun k_ => ((P0_ k_ ∨ P1_ k_) ∨ w.heap.size ≤ k_) ∧ k_ ≠ gb223 ∧ k_ ≠ gb230) ho0 (fun k_ hk_ => ⟨Or.elim hk_ (fun hs_ => hs_.1) (fun hn_ => (.inr (Nat.le_trans (below_size (by repeat (first | (with_reducible first | exact HB.out | apply below_alloc | apply pw_below_drewN | apply below_drew1 | refine below_set ?_ GE223.out | refine below_set ?_ GE230.out) | exact HB.out))) hn_))), Or.elim hk_ (fun hs_ => hs_.2.1) (fun hn_ => (Kd.freshB (g := gb223) (o := .cells #[.int .i64 0, .int .i64 0, .slice none 0 0] 31 (0, 0)) (by (with_reducible repeat (first | refine blk_drewN ?_ _ | refine blk_drew ?_ | refine blk_alloc ?_ _)); exact BK223.out) k_ hn_)), Or.elim hk_ (fun hs_ => hs_.2.2) (fun hn_ => (Kd.freshB (g := gb230) (o := .cells #[.int .i64 x231000_1, .int .i64 x231001_1, .slice Ao30 x231002_1.length co30] 31 (0, 0)) (by (with_reducible repeat (first | refine blk_drewN ?_ _ | refine blk_drew ?_ | refine blk_alloc ?_ _)); exact BK230.out) k_ hn_))⟩)) (below_size (by repeat (first | (with_reducible first | exact HB.out | apply below_alloc | apply pw_below_drewN | apply below_drew1 | refine below_set ?_ GE223.out | refine below_set ?_ GE230.out) | exact HB.out))))
                have n11_ := Aside0.mk (blk_below (g := gb223) (o := .cells #[.int .i64 0, .int .i64 0, .slice none 0 0] 31 (0, 0)) (by (with_reducible repeat (first | refine blk_drewN ?_ _ | refine blk_drew ?_ | refine blk_alloc ?_ _)); exact BK223.out) hb)
                have n12_ := Aside0.mk (blk_below (g := gb230) (o := .cells #[.int .i64 x231000_1, .int .i64 x231001_1, .slice Ao30 x231002_1.length co30] 31 (0, 0)) (by (with_reducible repeat (first | refine blk_drewN ?_ _ | refine blk_drew ?_ | refine blk_alloc ?_ _)); exact BK230.out) hb)
                have n13_ := Aside0.mk (Kd.C_below (by repeat (first | (with_reducible exact HR231_2.out) | (with_reducible refine Kd.C_alloc ?_ _) | (with_reducible refine Kd.C_drewN ?_ _) | (with_reducible refine Kd.C_drew ?_) | exact HR231_2.out)) hb)
                have n14_ := Aside0.mk (Kd.C_below (by repeat (first | (with_reducible exact HR232_2.out) | (with_reducible refine Kd.C_alloc ?_ _) | (with_reducible refine Kd.C_drewN ?_ _) | (with_reducible refine Kd.C_drew ?_) | exact HR232_2.out)) hb)
                have n15_ := Aside0.mk (below_step (by repeat (first | (with_reducible first | exact HB.out | apply below_alloc | apply pw_below_drewN | apply below_drew1 | refine below_set ?_ GE223.out | refine below_set ?_ GE230.out) | exact HB.out)) hb)
                clear HO_0
                clear HO_1
                clear HO_231002
                clear HL231_2
                clear HL232_2
                clear HO235
                clear HO240
                clear HO243
                clear HO248
                clear HO251
                clear BK223
                clear BK230
                clear HR231_2
                clear HR232_2
                clear HB
                have HO_0 := n0_
                have HO_1 := n1_
                have HO_231002 := n2_
                have HL231_2 := n3_
                have HL232_2 := n4_
                have HO235 := n5_
                have HO240 := n6_
                have HO243 := n7_
                have HO248 := n8_
                have HO251 := n9_
                have HO256 := n10_
                have BK223 := n11_
                have BK230 := n12_
                have HR231_2 := n13_
                have HR232_2 := n14_
                have HB := n15_
                clear n0_ n1_ n2_ n3_ n4_ n5_ n6_ n7_ n8_ n9_ n10_ n11_ n12_ n13_ n14_ n15_
                (try clear hb)
                (try clear hb2)
                (try clear hk)
                (try clear hi)
                (try clear ho0)
                obtain ⟨Ao38, co38, eo38⟩ := Kd.V_slice HO256.out
                (first | subst eo38 | (injection eo38 with f1_ f2_ f3_; have f4_ := f1_.symm; have f5_ := f3_.symm; clear f1_ f2_ f3_; subst f4_; subst f5_))
                refine hK.out _ _ ⟨(blk_cell BK230.out 0).trans rfl, (blk_cell BK230.out 1).trans rfl, (blk_cell BK230.out 2).trans rfl, HS3_, HS4_, HS5_, HS6_, HS7_, HS8_⟩ (fun hHeld => ?_)
                clear hK K
                refine norm_ (a' := ?_) ?_ ?_
                rotate_left
                · show Act.put _ (some 36) _ = _
                  simp only [Act.put, List.setIfInBounds_toArray, List.set_cons_zero, List.set_cons_succ, i64_w, i32_w]
                  rfl
                refine last_ (i := 15) (N := none) #[true, true, true, true, true, true, true, true, true, true, true, true, true, true, true, true] rfl rfl (one_of HT_.out (by kernel_rfl)) (by decide) (fun K hK => ?_)
                have hs36 : w35.cell? ⟨gb230, 0, none⟩ = some (.int .i64 x231000_1) := (blk_cell BK230.out 0).trans rfl
                have hfs36 := blk_frozen BK230.out 0
                have hns36_0 := NB223_230.out
                have hms36_0 := NB230_223.out
                have hs37 : w35.cell? ⟨gb230, 1, none⟩ = some (.int .i64 x231001_1) := (blk_cell BK230.out 1).trans rfl
                have hfs37 := blk_frozen BK230.out 1
                have hns37_0 := NB223_230.out
                have hms37_0 := NB230_223.out
                have hs39 : w35.cell? ⟨gb230, 2, none⟩ = some (.slice Ao30 x231002_1.length co30) := (blk_cell BK230.out 2).trans rfl
                have hfs39 := blk_frozen BK230.out 2
                have hns39_0 := NB223_230.out
                have hms39_0 := NB230_223.out
                refine skip_ (w1 := ?_) (by rfl) rfl ?_ ?_
                rotate_left
                · go_simp
                  rfl
                refine hK.out _ _ ?_
                clear hK K
                refine done_ (done_of HT_.out (by kernel_rfl)) ?_
                try go_wp2
                go_roundg k1
                case measure => have := HK1.out; omega
                case rel => exact ⟨(wrap64 (x19_1 + 1)), (t252), (t253), (t254), (.slice Ao38 t254.length co38), (by first | rfl | (simp; done) | (simp [*]; done)), H', ⟨by have := HK1.out; omega⟩, ⟨by (with_reducible repeat (first | apply Kd.V_alloc | apply Kd.V_drewN | apply Kd.V_drew)); exact Kd.V_mono (Kd.V_far (p := ⟨gb230, 2, none⟩) (Kd.V_far (p := ⟨gb230, 1, none⟩) (Kd.V_far (p := ⟨gb230, 0, none⟩) (Kd.V_mono HO_0.out (fun k_ hk => (⟨hk, hk.1.1.1.2.2⟩ : _ ∧ k_ ≠ gb230))) (fun _ hk => hk.2) (.int .i64 t252)) (fun _ hk => hk.2) (.int .i64 t253)) (fun _ hk => hk.2) (.slice Ao38 t254.length co38)) (fun _ hk => ⟨hk.1.1.1.1.1, ⟨hk.1.1.1.1.2.1, hk.1.1.1.1.2.2⟩⟩)⟩, ⟨by (with_reducible repeat (first | apply Kd.V_alloc | apply Kd.V_drewN | apply Kd.V_drew)); exact Kd.V_mono (Kd.V_far (p := ⟨gb230, 2, none⟩) (Kd.V_far (p := ⟨gb230, 1, none⟩) (Kd.V_far (p := ⟨gb230, 0, none⟩) (Kd.V_mono HO_1.out (fun k_ hk => (⟨hk, hk.1.1.1.2.2⟩ : _ ∧ k_ ≠ gb230))) (fun _ hk => hk.2) (.int .i64 t252)) (fun _ hk => hk.2) (.int .i64 t253)) (fun _ hk => hk.2) (.slice Ao38 t254.length co38)) (fun _ hk => ⟨hk.1.1.1.1.1, ⟨hk.1.1.1.1.2.1, hk.1.1.1.1.2.2⟩⟩)⟩, ⟨by (with_reducible repeat (first | apply Kd.V_alloc | apply Kd.V_drewN | apply Kd.V_drew)); exact Kd.V_mono (Kd.V_far (p := ⟨gb230, 2, none⟩) (Kd.V_far (p := ⟨gb230, 1, none⟩) (Kd.V_far (p := ⟨gb230, 0, none⟩) (Kd.V_mono HO256.out (fun k_ hk => (⟨hk, hk.2.2⟩ : _ ∧ k_ ≠ gb230))) (fun _ hk => hk.2) (.int .i64 t252)) (fun _ hk => hk.2) (.int .i64 t253)) (fun _ hk => hk.2) (.slice Ao38 t254.length co38)) (fun _ hk => ⟨hk.1.1, ⟨hk.1.2.1, hk.1.2.2⟩⟩)⟩, ⟨by (with_reducible repeat (first | refine blk_drewN ?_ _ | refine blk_drew ?_ | refine blk_alloc ?_ _)); refine blk_far ?_ NB223_230.out _; (with_reducible repeat (first | refine blk_drewN ?_ _ | refine blk_drew ?_ | refine blk_alloc ?_ _)); refine blk_far ?_ NB223_230.out _; (with_reducible repeat (first | refine blk_drewN ?_ _ | refine blk_drew ?_ | refine blk_alloc ?_ _)); refine blk_far ?_ NB223_230.out _; (with_reducible repeat (first | refine blk_drewN ?_ _ | refine blk_drew ?_ | refine blk_alloc ?_ _)); exact BK223.out⟩, ⟨by (with_reducible repeat (first | refine blk_drewN ?_ _ | refine blk_drew ?_ | refine blk_alloc ?_ _)); refine blk_put (cs := #[.int .i64 t252, .int .i64 t253, .slice Ao30 x231002_1.length co30]) ?_ 2 _ rfl; (with_reducible repeat (first | refine blk_drewN ?_ _ | refine blk_drew ?_ | refine blk_alloc ?_ _)); refine blk_put (cs := #[.int .i64 t252, .int .i64 x231001_1, .slice Ao30 x231002_1.length co30]) ?_ 1 _ rfl; (with_reducible repeat (first | refine blk_drewN ?_ _ | refine blk_drew ?_ | refine blk_alloc ?_ _)); refine blk_put (cs := #[.int .i64 x231000_1, .int .i64 x231001_1, .slice Ao30 x231002_1.length co30]) ?_ 0 _ rfl; (with_reducible repeat (first | refine blk_drewN ?_ _ | refine blk_drew ?_ | refine blk_alloc ?_ _)); exact BK230.out⟩, ⟨by repeat (first | (with_reducible first | exact HB.out | apply below_alloc | apply pw_below_drewN | apply below_drew1 | refine below_set ?_ GE223.out | refine below_set ?_ GE230.out) | exact HB.out)⟩⟩
              · rw [if_neg c16] at H
                exact absurd H (by simp)
            · rw [if_neg c15] at H
              exact absurd H (by simp)
          · rw [if_neg c14] at H
            exact absurd H (by simp)
        · rw [if_neg c13] at H
          have c13b0 : decide (x19_1 < (l0.length : Int)) = false := decide_eq_false c13
          clear c13
          replace H := Option.bind_eq_some_iff.mp H
          obtain ⟨⟨t257, t258, t259, t262⟩, A400, H⟩ := H
          replace H : (some (t257, t258, t259, t262)) = some (r1, r2, r3, r4) := H
          have A40 := Aside0.mk A400
          clear A400
          simp only [Option.some.injEq, Prod.mk.injEq] at H
          obtain ⟨rfl, rfl, rfl, rfl⟩ := H
          have hnb41 := NB230_223.out
          have hnc41 := NB223_230.out
          have hcz42_0 : wr.cell? ⟨gb230, 0, none⟩ = some (.int .i64 x231000_1) := (blk_cell BK230.out 0).trans rfl
          have hcz42_1 : wr.cell? ⟨gb230, 1, none⟩ = some (.int .i64 x231001_1) := (blk_cell BK230.out 1).trans rfl
          have hcz42_2 : wr.cell? ⟨gb230, 2, none⟩ = some (u231002) := (blk_cell BK230.out 2).trans rfl
          have hfz42_0 := blk_frozen BK230.out 0
          have hfz42_1 := blk_frozen BK230.out 1
          have hfz42_2 := blk_frozen BK230.out 2
          obtain ⟨Ao43, co43, eo43⟩ := Kd.V_slice HO_231002.out
          subst eo43
          go_wp2_with (first | ((with_reducible refine gate_callee (f := 81) rfl ?_); refine goesL_ (some 39) rfl rfl Try.func81 (by kernel_rfl) rfl #[.agg #[.int .i64 x231000_1, .int .i64 x231001_1, .slice Ao43 x231002_1.length co43]] rfl (by (try simp only [List.map_toArray, List.map_cons, List.map_nil]); first | done | rfl | (simp only [List.length_drop, List.length_take]; rfl)) ?_; (with_reducible refine (checkedS.calls k1 x231000_1 x231001_1 _ _ x231002_1 t257 t258 t259 t262 _ ?side1 ?side2 A40.out).mono ?_); (case side1 => repeat (first | exact (Kd.V_reads' HO_231002.out).2.2 | (with_reducible refine Kd.C_alloc ?_ _) | (with_reducible refine Kd.C_drewN ?_ _) | (with_reducible refine Kd.C_drew ?_))); (case side2 => exact (Kd.V_reads' HO_231002.out).2.1); rintro e w44 ⟨v260, rfl, ho0, hb⟩; refine ⟨_, rfl, ?_⟩; have n0_ := Aside0.mk (Kd.V_elder' (by (with_reducible repeat (first | apply Kd.V_alloc | apply Kd.V_drewN | apply Kd.V_drew)); exact HO_0.out) (by first | exact Kd.N_base ho0 | exact Kd.R_base ho0 | exact Kd.S_base ho0) hb); have n1_ := Aside0.mk (Kd.V_elder' (by (with_reducible repeat (first | apply Kd.V_alloc | apply Kd.V_drewN | apply Kd.V_drew)); exact HO_1.out) (by first | exact Kd.N_base ho0 | exact Kd.R_base ho0 | exact Kd.S_base ho0) hb); have n2_ := Aside0.mk (Kd.V_elder' (by (with_reducible repeat (first | apply Kd.V_alloc | apply Kd.V_drewN | apply Kd.V_drew)); exact HO_231002.out) (by first | exact Kd.N_base ho0 | exact Kd.R_base ho0 | exact Kd.S_base ho0) hb); have n3_ := Aside0.mk (Kd.S_lower (Kd.S_mono (ok' := fun k_ => ((P0_ k_ ∨ P1_ k_) ∨ w.heap.size ≤ k_) ∧ k_ ≠ gb223 ∧ k_ ≠ gb230) (Kd.S_bound ho0) (fun k_ hk_ => ⟨(.inr (Nat.le_trans (below_size (by repeat (first | (with_reducible first | exact HB.out | apply below_alloc | apply pw_below_drewN | apply below_drew1 | refine below_set ?_ GE223.out | refine below_set ?_ GE230.out) | exact HB.out))) hk_.2.1)), (Kd.freshB (g := gb223) (o := .cells #[.int .i64 0, .int .i64 0, .slice none 0 0] 31 (0, 0)) (by (with_reducible repeat (first | refine blk_drewN ?_ _ | refine blk_drew ?_ | refine blk_alloc ?_ _)); exact BK223.out) k_ hk_.2.1), (Kd.freshB (g := gb230) (o := .cells #[.int .i64 x231000_1, .int .i64 x231001_1, .slice Ao43 x231002_1.length co43] 31 (0, 0)) (by (with_reducible repeat (first | refine blk_drewN ?_ _ | refine blk_drew ?_ | refine blk_alloc ?_ _)); exact BK230.out) k_ hk_.2.1)⟩)) (below_size (by repeat (first | (with_reducible first | exact HB.out | apply below_alloc | apply pw_below_drewN | apply below_drew1 | refine below_set ?_ GE223.out | refine below_set ?_ GE230.out) | exact HB.out)))); have n4_ := Aside0.mk (blk_below (g := gb223) (o := .cells #[.int .i64 0, .int .i64 0, .slice none 0 0] 31 (0, 0)) (by (with_reducible repeat (first | refine blk_drewN ?_ _ | refine blk_drew ?_ | refine blk_alloc ?_ _)); exact BK223.out) hb); have n5_ := Aside0.mk (blk_below (g := gb230) (o := .cells #[.int .i64 x231000_1, .int .i64 x231001_1, .slice Ao43 x231002_1.length co43] 31 (0, 0)) (by (with_reducible repeat (first | refine blk_drewN ?_ _ | refine blk_drew ?_ | refine blk_alloc ?_ _)); exact BK230.out) hb); have n6_ := Aside0.mk (below_step (by repeat (first | (with_reducible first | exact HB.out | apply below_alloc | apply pw_below_drewN | apply below_drew1 | refine below_set ?_ GE223.out | refine below_set ?_ GE230.out) | exact HB.out)) hb); clear HO_0; clear HO_1; clear HO_231002; clear BK223; clear BK230; clear HB; have HO_0 := n0_; have HO_1 := n1_; have HO_231002 := n2_; have HO261 := n3_; have BK223 := n4_; have BK230 := n5_; have HB := n6_; clear n0_ n1_ n2_ n3_ n4_ n5_ n6_; (try clear hb); (try clear hb2); (try clear hk); (try clear hi); (try clear ho0); have hcz45_0 : w44.cell? ⟨gb223, 0, none⟩ = some (.int .i64 0) := (blk_cell BK223.out 0).trans rfl; have hcz45_1 : w44.cell? ⟨gb223, 1, none⟩ = some (.int .i64 0) := (blk_cell BK223.out 1).trans rfl; have hcz45_2 : w44.cell? ⟨gb223, 2, none⟩ = some (.slice none 0 0) := (blk_cell BK223.out 2).trans rfl; have hfz45_0 := blk_frozen BK223.out 0; have hfz45_1 := blk_frozen BK223.out 1; have hfz45_2 := blk_frozen BK223.out 2; obtain ⟨Ao46, co46, eo46⟩ := Kd.S_slice HO261.out; subst eo46))
          refine bodyPost_ret (results_ct rfl _ _ gb223 31 #[.int .i64 t257, .int .i64 t258, .slice Ao46 t259.length co46] (0, 0) _ rfl (by (with_reducible repeat (first | refine blk_drewN ?_ _ | refine blk_drew ?_ | refine blk_alloc ?_ _)); refine blk_put (cs := #[.int .i64 t257, .int .i64 t258, .slice none 0 0]) ?_ 2 _ rfl; (with_reducible repeat (first | refine blk_drewN ?_ _ | refine blk_drew ?_ | refine blk_alloc ?_ _)); refine blk_put (cs := #[.int .i64 t257, .int .i64 0, .slice none 0 0]) ?_ 1 _ rfl; (with_reducible repeat (first | refine blk_drewN ?_ _ | refine blk_drew ?_ | refine blk_alloc ?_ _)); refine blk_put (cs := #[.int .i64 0, .int .i64 0, .slice none 0 0]) ?_ 0 _ rfl; (with_reducible repeat (first | refine blk_drewN ?_ _ | refine blk_drew ?_ | refine blk_alloc ?_ _)); exact BK223.out) Try.underlying31 rfl (by kernel_rfl)) rfl ?_
          exact ⟨_, by first | rfl | (simp [errW_none, errW_some] <;> rfl) | (simp [*, errW_none, errW_some] <;> rfl), by (with_reducible repeat (first | apply Kd.S_alloc | apply Kd.S_drewN | apply Kd.S_drew)); exact Kd.S_mono (Kd.S_far (p := ⟨gb223, 2, none⟩) (Kd.S_far (p := ⟨gb223, 1, none⟩) (Kd.S_far (p := ⟨gb223, 0, none⟩) (Kd.S_mono HO261.out (fun k_ hk => (⟨hk, hk.2.1⟩ : _ ∧ k_ ≠ gb223))) (fun _ hk => hk.2) (.int .i64 t257)) (fun _ hk => hk.2) (.int .i64 t258)) (fun _ hk => hk.2) (.slice Ao46 t259.length co46)) (fun _ hk => hk.1.1), by repeat (first | (with_reducible first | exact HB.out | apply below_alloc | apply pw_below_drewN | apply below_drew1 | refine below_set ?_ GE223.out | refine below_set ?_ GE230.out) | exact HB.out)⟩
  · rw [if_neg c4] at H
    have c4b0 : (t224 == 0) = false := beq_eq_false_iff_ne.mpr c4
    have c4b1 : (t224 != 0) = true := bne_iff_ne.mpr c4
    simp only [Option.some.injEq, Prod.mk.injEq] at H
    obtain ⟨rfl, rfl, rfl, rfl⟩ := H
    go_enter Try.func38, Try.ntmps38
    go_wp2_with (first | ((with_reducible refine gate_dst (N := 4) rfl ?_); refine box_event ?hg (N := 4) ?hd (cs := #[.int .i64 0, .int .i64 0, .slice none 0 0]) (t := 31) ?hr ?_; (case hd => rfl); (case hg => rfl); (case hr => first | (go_simp; done) | (go_simp; rfl)); intro gb223 hg w47 hbox hb; have n0_ := Aside0.mk (Kd.V_below (Kd.V_elderB (by (with_reducible repeat (first | apply Kd.V_alloc | apply Kd.V_drewN | apply Kd.V_drew)); exact HO0.out) gb223 (Nat.le_of_eq hg.symm)) hb); have n1_ := Aside0.mk (Kd.V_below (Kd.V_elderB (by (with_reducible repeat (first | apply Kd.V_alloc | apply Kd.V_drewN | apply Kd.V_drew)); exact HO1.out) gb223 (Nat.le_of_eq hg.symm)) hb); have n2_ := Aside0.mk (below_step (by repeat (first | (with_reducible first | exact HB.out | apply below_alloc | apply pw_below_drewN | apply below_drew1) | exact HB.out)) hb); have n3_ := Aside0.mk (hbox); have n4_ := Aside0.mk ((by rw [hg]; exact (below_size (by repeat (first | (with_reducible first | exact HB.out | apply below_alloc | apply pw_below_drewN | apply below_drew1) | exact HB.out))) : w.heap.size ≤ gb223)); have n5_ := Aside0.mk ((by rw [hg]; exact (below_size (by repeat (first | (with_reducible first | exact HB.out | apply below_alloc | apply pw_below_drewN | apply below_drew1) | exact HB.out))) : w.heap.size ≤ gb223)); clear HO0; clear HO1; clear HB; have HO0 := n0_; have HO1 := n1_; have HB := n2_; have BK223 := n3_; have GW223 := n4_; have GE223 := n5_; clear n0_ n1_ n2_ n3_ n4_ n5_; clear hb hbox hg) | ((with_reducible refine gate_callee (f := 87) rfl ?_); refine goesL_ (some 11) rfl rfl Try.func87 (by kernel_rfl) rfl #[.slice A0 l0.length c0, .slice A1 l1.length c1] rfl (by (try simp only [List.map_toArray, List.map_cons, List.map_nil]); first | done | rfl | (simp only [List.length_drop, List.length_take]; rfl)) ?_; (with_reducible refine (impl_rowsCode.calls k _ _ l0 _ _ l1 t224 _ ?side1 ?side2 ?side3 ?side4 A3.out).mono ?_); (case side1 => repeat (first | exact (Kd.V_reads' HO0.out).2.2 | (with_reducible refine Kd.C_alloc ?_ _) | (with_reducible refine Kd.C_drewN ?_ _) | (with_reducible refine Kd.C_drew ?_))); (case side2 => exact (Kd.V_reads' HO0.out).2.1); (case side3 => repeat (first | exact (Kd.V_reads' HO1.out).2.2 | (with_reducible refine Kd.C_alloc ?_ _) | (with_reducible refine Kd.C_drewN ?_ _) | (with_reducible refine Kd.C_drew ?_))); (case side4 => exact (Kd.V_reads' HO1.out).2.1); rintro e w48 ⟨rfl, hb⟩; refine ⟨_, rfl, ?_⟩; have n0_ := Aside0.mk (Kd.V_below (by (with_reducible repeat (first | apply Kd.V_alloc | apply Kd.V_drewN | apply Kd.V_drew)); exact HO0.out) hb); have n1_ := Aside0.mk (Kd.V_below (by (with_reducible repeat (first | apply Kd.V_alloc | apply Kd.V_drewN | apply Kd.V_drew)); exact HO1.out) hb); have n2_ := Aside0.mk (blk_below (g := gb223) (o := .cells #[.int .i64 0, .int .i64 0, .slice none 0 0] 31 (0, 0)) (by (with_reducible repeat (first | refine blk_drewN ?_ _ | refine blk_drew ?_ | refine blk_alloc ?_ _)); exact BK223.out) hb); have n3_ := Aside0.mk (below_step (by repeat (first | (with_reducible first | exact HB.out | apply below_alloc | apply pw_below_drewN | apply below_drew1 | refine below_set ?_ GE223.out) | exact HB.out)) hb); clear HO0; clear HO1; clear BK223; clear HB; have HO0 := n0_; have HO1 := n1_; have BK223 := n2_; have HB := n3_; clear n0_ n1_ n2_ n3_; (try clear hb); (try clear hb2); (try clear hk); (try clear hi); have hcz49_0 : w48.cell? ⟨gb223, 0, none⟩ = some (.int .i64 0) := (blk_cell BK223.out 0).trans rfl; have hcz49_1 : w48.cell? ⟨gb223, 1, none⟩ = some (.int .i64 0) := (blk_cell BK223.out 1).trans rfl; have hcz49_2 : w48.cell? ⟨gb223, 2, none⟩ = some (.slice none 0 0) := (blk_cell BK223.out 2).trans rfl; have hfz49_0 := blk_frozen BK223.out 0; have hfz49_1 := blk_frozen BK223.out 1; have hfz49_2 := blk_frozen BK223.out 2))
    refine bodyPost_ret (results_ct rfl _ _ gb223 31 #[.int .i64 0, .int .i64 0, .slice none 0 0] (0, 0) _ rfl (by (with_reducible repeat (first | refine blk_drewN ?_ _ | refine blk_drew ?_ | refine blk_alloc ?_ _)); refine blk_put (cs := #[.int .i64 0, .int .i64 0, .slice none 0 0]) ?_ 2 _ rfl; (with_reducible repeat (first | refine blk_drewN ?_ _ | refine blk_drew ?_ | refine blk_alloc ?_ _)); refine blk_put (cs := #[.int .i64 0, .int .i64 0, .slice none 0 0]) ?_ 1 _ rfl; (with_reducible repeat (first | refine blk_drewN ?_ _ | refine blk_drew ?_ | refine blk_alloc ?_ _)); refine blk_put (cs := #[.int .i64 0, .int .i64 0, .slice none 0 0]) ?_ 0 _ rfl; (with_reducible repeat (first | refine blk_drewN ?_ _ | refine blk_drew ?_ | refine blk_alloc ?_ _)); exact BK223.out) Try.underlying31 rfl (by kernel_rfl)) rfl ?_
    exact ⟨_, by first | rfl | (simp [errW_none, errW_some] <;> rfl) | (simp [*, errW_none, errW_some] <;> rfl), by first | exact Kd.R_nil _ _ _ _ _ | exact Kd.N_nil _ _ _ _ _ | exact Kd.V_nil _ _ _ _ _ | exact Kd.Q_nil _ _ _ _ _ | exact Kd.S_nil _ _ _ _ _, by repeat (first | (with_reducible first | exact HB.out | apply below_alloc | apply pw_below_drewN | apply below_drew1 | refine below_set ?_ GE223.out) | exact HB.out)⟩

/-! ### laws_FnExactEqualEx: function 6 -/
open Classical in
noncomputable def laws_FnExactEqualEx.f (kf : Nat) (l0 : List S24) (l1 : List S24) : Option Bool :=
  (laws_szExS.f kf l0 1048576).bind fun t => if t < 0 then some true else
  (laws_szExS.f kf l1 t).bind fun u => if u < 0 then some true else
  (laws_toExS.f kf l0).bind fun x0 => (laws_toExS.f kf l1).bind fun x1 => (spec_EqualEx.f kf x0 x1).bind fun (s1, s2, s3, s4) => (impl_EqualEx.f kf x0 x1).bind fun g => (laws_eqEx.f kf s1 s2 s3 s1 s2 s3).bind fun b1 => (laws_eqExS.f kf x0 x0).bind fun b2_0 => (laws_eqExS.f kf x1 x1).bind fun b2_1 => (laws_heldEx.f kf s1 s2 (mkL s3 1) 1).bind fun h =>
  if g = (s1, s2, s3, s4) ∧ b1 = true ∧ b2_0 = true ∧ b2_1 = true ∧ h = 1 + 2 * (nL s3 : Int) ∧ nL x0 ≤ 1048576 ∧ nL x1 ≤ 1048576 ∧ nL s3 ≤ 1048576 then some true else none
set_option maxHeartbeats 1600000 in
set_option maxRecDepth 100000 in
theorem laws_FnExactEqualEx.calls (kf : Nat) (A0 : Option Addr) (c0 : Nat) (l0 : List S24) (A1 : Option Addr) (c1 : Nat) (l1 : List S24) (r : Bool) (w : World) (hr0 : Kd.C k24 w A0 l0.length l0) (hc0 : l0.length ≤ c0) (hr1 : Kd.C k24 w A1 l1.length l1) (hc1 : l1.length ≤ c1) (h : laws_FnExactEqualEx.f kf l0 l1 = some r) :
    Calls Try.prog 6 #[.slice A0 l0.length c0, .slice A1 l1.length c1] w fun e w' => e = .returned (.bool r) ∧ Below w.heap.size w w' := by
  have hu31 := Try.underlying31
  have hu24 := Try.underlying24
  unfold laws_FnExactEqualEx.f at h
  have HB := Aside0.mk (Below.refl w.heap.size w)
  replace h := Option.bind_eq_some_iff.1 h
  obtain ⟨t, hsz0, h⟩ := h
  by_cases ht0 : t < 0
  · rw [if_pos ht0] at h
    obtain rfl := Option.some.inj h
    clear h
    go_enter Try.func6, Try.ntmps6
    go_wp2_with (first | (go_at_call 29; (with_reducible refine (laws_szExS.calls kf A0 c0 l0 1048576 t _ (Kd.C_below hr0 HB.out) hc0 hsz0).mono ?_); rintro e wz0 ⟨rfl, hb⟩; have mB_ := Aside0.mk (HB.out.trans (hb.mono HB.out.size)); clear HB hb; have HB := mB_; clear mB_))
    go_ret
    exact ⟨rfl, HB.out⟩
  rw [if_neg ht0] at h
  replace h := Option.bind_eq_some_iff.1 h
  obtain ⟨u, hsz1, h⟩ := h
  by_cases ht1 : u < 0
  · rw [if_pos ht1] at h
    obtain rfl := Option.some.inj h
    clear h
    go_enter Try.func6, Try.ntmps6
    go_wp2_with (first | (go_at_call 29; (with_reducible refine (laws_szExS.calls kf A0 c0 l0 1048576 t _ (Kd.C_below hr0 HB.out) hc0 hsz0).mono ?_); rintro e wz0 ⟨rfl, hb⟩; have mB_ := Aside0.mk (HB.out.trans (hb.mono HB.out.size)); clear HB hb; have HB := mB_; clear mB_) | (go_at_call 29; (with_reducible refine (laws_szExS.calls kf A1 c1 l1 t u _ (Kd.C_below hr1 HB.out) hc1 hsz1).mono ?_); rintro e wz1 ⟨rfl, hb⟩; have mB_ := Aside0.mk (HB.out.trans (hb.mono HB.out.size)); clear HB hb; have HB := mB_; clear mB_))
    go_ret
    exact ⟨rfl, HB.out⟩
  rw [if_neg ht1] at h
  replace h := Option.bind_eq_some_iff.1 h
  obtain ⟨x0, hto0, h⟩ := h
  replace h := Option.bind_eq_some_iff.1 h
  obtain ⟨x1, hto1, h⟩ := h
  replace h := Option.bind_eq_some_iff.1 h
  obtain ⟨⟨s1, s2, s3, s4⟩, hsp, h⟩ := h
  replace h := Option.bind_eq_some_iff.1 h
  obtain ⟨g, him, h⟩ := h
  replace h := Option.bind_eq_some_iff.1 h
  obtain ⟨b1, heb, h⟩ := h
  replace h := Option.bind_eq_some_iff.1 h
  obtain ⟨b2_0, hex0, h⟩ := h
  replace h := Option.bind_eq_some_iff.1 h
  obtain ⟨b2_1, hex1, h⟩ := h
  replace h := Option.bind_eq_some_iff.1 h
  obtain ⟨hh, hhb, h⟩ := h
  by_cases hc : g = (s1, s2, s3, s4) ∧ b1 = true ∧ b2_0 = true ∧ b2_1 = true ∧ hh = 1 + 2 * (nL s3 : Int) ∧ nL x0 ≤ 1048576 ∧ nL x1 ≤ 1048576 ∧ nL s3 ≤ 1048576
  · rw [if_pos hc] at h
    obtain ⟨rfl, rfl, rfl, rfl, rfl, hn0, hn1, hn9⟩ := hc
    obtain rfl := Option.some.inj h
    clear h
    have hne : (s4 != s4) = false := by simp
    have hne2 : ((1 + 2 * (nL s3 : Int)) != (1 + 2 * (nL s3 : Int))) = false := by simp
    have hnn : ¬ ((1 + 2 * (nL s3 : Int)) < 0) := by omega
    have hnx := Aside0.mk (show nL x0 ≤ 1048576 ∧ nL x1 ≤ 1048576 ∧ nL s3 ≤ 1048576 from ⟨hn0, hn1, hn9⟩)
    clear hn0 hn1 hn9
    go_enter Try.func6, Try.ntmps6
    go_upto_region 8 with (first
      | (go_at_call 29; (with_reducible refine (laws_szExS.calls kf A0 c0 l0 1048576 t _ (Kd.C_below hr0 HB.out) hc0 hsz0).mono ?_); rintro e wz0 ⟨rfl, hb⟩; have mHB_ := Aside0.mk (HB.out.trans (hb.mono HB.out.size)); clear HB; have HB := mHB_; clear mHB_; clear hb)
      | (go_at_call 29; (with_reducible refine (laws_szExS.calls kf A1 c1 l1 t u _ (Kd.C_below hr1 HB.out) hc1 hsz1).mono ?_); rintro e wz1 ⟨rfl, hb⟩; have mHB_ := Aside0.mk (HB.out.trans (hb.mono HB.out.size)); clear HB; have HB := mHB_; clear mHB_; clear hb))
    go_upto_region 9 with (first
      | (go_at_call 31; (with_reducible refine (toSS.calls kf A0 c0 l0 x0 _ (Kd.C_below hr0 HB.out) hc0 hto0).mono ?_); rintro e wy0 ⟨v3, rfl, hS3, hb⟩; have mHB_ := Aside0.mk (HB.out.trans (hb.mono HB.out.size)); clear HB; have HB := mHB_; clear mHB_; clear hb; obtain ⟨A0b, c0b, ev_, hl0b, hC0b⟩ := Kd.S_reads hS3; replace hC0b := kS31_C hC0b; clear hS3; subst ev_)
      | (go_at_call 31; (with_reducible refine (toSS.calls kf A1 c1 l1 x1 _ (Kd.C_below hr1 HB.out) hc1 hto1).mono ?_); rintro e wy1 ⟨v3, rfl, hS3, hb⟩; have mHB_ := Aside0.mk (HB.out.trans (hb.mono HB.out.size)); clear HB; have HB := mHB_; clear mHB_; have hC0b := Kd.C_below hC0b hb; clear hb; obtain ⟨A1b, c1b, ev_, hl1b, hC1b⟩ := Kd.S_reads hS3; replace hC1b := kS31_C hC1b; clear hS3; subst ev_)
      | (go_at_call 37; (with_reducible refine (spec_EqualEx.calls kf A0b c0b x0 A1b c1b x1 s1 s2 s3 s4 _ hC0b hl0b hC1b hl1b hsp).mono ?_); rintro e w3 ⟨v4, rfl, hV4, hb⟩; clear hC0b hl0b hC1b hl1b; have mHB_ := Aside0.mk (HB.out.trans (hb.mono HB.out.size)); clear HB; have HB := mHB_; clear mHB_; clear hb; obtain ⟨A4, c4, ev4⟩ := Kd.V_slice hV4; subst ev4; have hF4 := Kd.V_F hV4; have hl4 := (Kd.V_reads' hV4).2.1; clear hV4)
      | ((with_reducible refine gate_dst (N := 6) rfl ?_); refine box_event ?hg (N := 6) ?hd (cs := #[.int .i64 0, .int .i64 0, .slice none 0 0]) (t := 31) ?hr ?_; (case hd => rfl); (case hg => rfl); (case hr => first | (go_simp; done) | (go_simp; rfl)); intro gb4 hgw wb4 hbox hbb; have hcz0 := (blk_cell hbox 0).trans (show _ = some (.int .i64 0) from rfl); have hcz1 := (blk_cell hbox 1).trans (show _ = some (.int .i64 0) from rfl); have hcz2 := (blk_cell hbox 2).trans (show _ = some (.slice none 0 0) from rfl); have hfz0 := blk_frozen hbox 0; have hfz1 := blk_frozen hbox 1; have hfz2 := blk_frozen hbox 2; have hgw_ := Aside0.mk hgw; clear hgw; have hgw := hgw_; clear hgw_)
      | ((with_reducible refine gate_store (t := 31) (p := 6) rfl ?_); refine store_event (t := 31) (p := 6) (v := ?vo_6) (w1 := ((wb4.setCell ⟨gb4, 0, none⟩ (.int .i64 s1)).setCell ⟨gb4, 1, none⟩ (.int .i64 s2)).setCell ⟨gb4, 2, none⟩ (.slice A4 s3.length c4)) ?hg ?ho ?hn ?hr ?_; (case ho => rfl); (case hg => rfl); (case hn => rfl); (case hr => first | (go_simp; done) | (go_simp; rfl)); clear hcz0 hcz1 hcz2 hfz0 hfz1 hfz2; intro w4 hw_; obtain ⟨hbk, hb⟩ := box3 (a := .int .i64 s1) (b := .int .i64 s2) (v := .slice A4 s3.length c4) hgw.out hbox hbb; rw [← hw_] at hbk hb; clear hw_ hbox hbb; have mHB_ := Aside0.mk (HB.out.trans (hb.mono HB.out.size)); clear HB; have HB := mHB_; clear mHB_; have FW := Aside0.mk (ft_and (ft_blk (ok := fun k_ => k_ < w4.heap.size) hbk (blk_lt hbk)) (Kd.F_mono (Kd.F_bound (Kd.F_below hF4 hb)) (fun k_ hk_ => hk_.2))); have HW4 := Aside0.mk HB.out.size; clear hgw hb hbk hF4))
    have hw0 := (blk_cell FW.out.now.1 0).trans (show _ = some (.int .i64 s1) from rfl)
    have hw1 := (blk_cell FW.out.now.1 1).trans (show _ = some (.int .i64 s2) from rfl)
    have hw2 := (blk_cell FW.out.now.1 2).trans (show _ = some (.slice A4 s3.length c4) from rfl)
    go_upto_region 10 with (go_at_call 31; (with_reducible refine (toSS.calls kf A0 c0 l0 x0 _ (Kd.C_below hr0 HB.out) hc0 hto0).mono ?_); rintro e w5 ⟨v5, rfl, hS5, hb⟩; have HX0 := Aside0.mk (ft_OT (OT.of _ x0 (Nat.lt_succ_self _) (Kd.S_mono (ok' := fun k_ => w4.heap.size ≤ k_ ∧ k_ < w5.heap.size) (Kd.S_bound hS5) (fun k_ hk_ => ⟨hk_.2.1, hk_.2.2.1⟩)))); have H45 := Aside0.mk hb.size; clear hw0 hw1 hw2; have mFW_ := Aside0.mk (ft_below FW.out hb); have mHB_ := Aside0.mk (HB.out.trans (hb.mono HB.out.size)); clear FW HB; have FW := mFW_; have HB := mHB_; clear mFW_ mHB_; have hw0 := (blk_cell FW.out.now.1 0).trans (show _ = some (.int .i64 s1) from rfl); have hw1 := (blk_cell FW.out.now.1 1).trans (show _ = some (.int .i64 s2) from rfl); have hw2 := (blk_cell FW.out.now.1 2).trans (show _ = some (.slice A4 s3.length c4) from rfl); clear hb; obtain ⟨A5, c5, ev5⟩ := Kd.S_slice hS5; clear hS5; subst ev5)
    go_upto_region 11 with (go_at_call 31; (with_reducible refine (toSS.calls kf A1 c1 l1 x1 _ (Kd.C_below hr1 HB.out) hc1 hto1).mono ?_); rintro e w6 ⟨v5, rfl, hS5, hb⟩; have HX1 := Aside0.mk (ft_OT (OT.of _ x1 (Nat.lt_succ_self _) (Kd.S_mono (ok' := fun k_ => w5.heap.size ≤ k_ ∧ k_ < w6.heap.size) (Kd.S_bound hS5) (fun k_ hk_ => ⟨hk_.2.1, hk_.2.2.1⟩)))); have H56 := Aside0.mk hb.size; clear hw0 hw1 hw2; have mFW_ := Aside0.mk (ft_below FW.out hb); have mHX0_ := Aside0.mk (ft_below HX0.out hb); have mHB_ := Aside0.mk (HB.out.trans (hb.mono HB.out.size)); clear FW HX0 HB; have FW := mFW_; have HX0 := mHX0_; have HB := mHB_; clear mFW_ mHX0_ mHB_; have hw0 := (blk_cell FW.out.now.1 0).trans (show _ = some (.int .i64 s1) from rfl); have hw1 := (blk_cell FW.out.now.1 1).trans (show _ = some (.int .i64 s2) from rfl); have hw2 := (blk_cell FW.out.now.1 2).trans (show _ = some (.slice A4 s3.length c4) from rfl); clear hb; obtain ⟨A6, c6, ev5⟩ := Kd.S_slice hS5; clear hS5; subst ev5)
    go_upto_region 12 with (first
      | (go_at_call 38; (with_reducible refine (equalS.calls kf (fun k_ => w4.heap.size ≤ k_ ∧ k_ < w5.heap.size) A5 c5 x0 (fun k_ => w5.heap.size ≤ k_ ∧ k_ < w6.heap.size) A6 c6 x1 s1 s2 s3 s4 _ (OT.V HX0.out.now) (OT.V HX1.out.now) him).mono ?_); rintro e w7 ⟨v7, rfl, hS7, hb⟩; have HG := Aside0.mk (ft_OT (OT.of _ s3 (Nat.lt_succ_self _) (Kd.S_mono (ok' := fun k_ => w6.heap.size ≤ k_ ∧ k_ < w7.heap.size) (Kd.S_bound hS7) (fun k_ hk_ => ⟨hk_.2.1, hk_.2.2.1⟩)))); have H67 := Aside0.mk hb.size; clear hw0 hw1 hw2; have mFW_ := Aside0.mk (ft_below FW.out hb); have mHX0_ := Aside0.mk (ft_below HX0.out hb); have mHX1_ := Aside0.mk (ft_below HX1.out hb); have mHB_ := Aside0.mk (HB.out.trans (hb.mono HB.out.size)); clear FW HX0 HX1 HB; have FW := mFW_; have HX0 := mHX0_; have HX1 := mHX1_; have HB := mHB_; clear mFW_ mHX0_ mHX1_ mHB_; have hw0 := (blk_cell FW.out.now.1 0).trans (show _ = some (.int .i64 s1) from rfl); have hw1 := (blk_cell FW.out.now.1 1).trans (show _ = some (.int .i64 s2) from rfl); have hw2 := (blk_cell FW.out.now.1 2).trans (show _ = some (.slice A4 s3.length c4) from rfl); clear hb; obtain ⟨A7, c7, ev7⟩ := Kd.S_slice hS7; clear hS7; subst ev7)
      | ((with_reducible refine gate_dst (N := 10) rfl ?_); refine box_event ?hg (N := 10) ?hd (cs := #[.int .i64 0, .int .i64 0, .slice none 0 0]) (t := 31) ?hr ?_; (case hd => rfl); (case hg => rfl); (case hr => first | (go_simp; done) | (go_simp; rfl)); intro gb7 hgw wb7 hbox hbb; have hcz0 := (blk_cell hbox 0).trans (show _ = some (.int .i64 0) from rfl); have hcz1 := (blk_cell hbox 1).trans (show _ = some (.int .i64 0) from rfl); have hcz2 := (blk_cell hbox 2).trans (show _ = some (.slice none 0 0) from rfl); have hfz0 := blk_frozen hbox 0; have hfz1 := blk_frozen hbox 1; have hfz2 := blk_frozen hbox 2; have hgw_ := Aside0.mk hgw; clear hgw; have hgw := hgw_; clear hgw_)
      | ((with_reducible refine gate_store (t := 31) (p := 10) rfl ?_); refine store_event (t := 31) (p := 10) (v := ?vo_10) (w1 := ((wb7.setCell ⟨gb7, 0, none⟩ (.int .i64 s1)).setCell ⟨gb7, 1, none⟩ (.int .i64 s2)).setCell ⟨gb7, 2, none⟩ (.slice A7 s3.length c7)) ?hg ?ho ?hn ?hr ?_; (case ho => rfl); (case hg => rfl); (case hn => rfl); (case hr => first | (go_simp; done) | (go_simp; rfl)); clear hcz0 hcz1 hcz2 hfz0 hfz1 hfz2; intro w8 hw_; obtain ⟨hbk, hb⟩ := box3 (a := .int .i64 s1) (b := .int .i64 s2) (v := .slice A7 s3.length c7) hgw.out hbox hbb; rw [← hw_] at hbk hb; clear hw_ hbox hbb; clear hw0 hw1 hw2; have mFW_ := Aside0.mk (ft_below FW.out hb); have mHX0_ := Aside0.mk (ft_below HX0.out hb); have mHX1_ := Aside0.mk (ft_below HX1.out hb); have mHG_ := Aside0.mk (ft_below HG.out hb); have mHB_ := Aside0.mk (HB.out.trans (hb.mono HB.out.size)); clear FW HX0 HX1 HG HB; have FW := mFW_; have HX0 := mHX0_; have HX1 := mHX1_; have HG := mHG_; have HB := mHB_; clear mFW_ mHX0_ mHX1_ mHG_ mHB_; have hw0 := (blk_cell FW.out.now.1 0).trans (show _ = some (.int .i64 s1) from rfl); have hw1 := (blk_cell FW.out.now.1 1).trans (show _ = some (.int .i64 s2) from rfl); have hw2 := (blk_cell FW.out.now.1 2).trans (show _ = some (.slice A4 s3.length c4) from rfl); have HGB := Aside0.mk (ft_blk (ok := fun k_ => k_ = gb7) hbk rfl); have HGG := Aside0.mk (Nat.le_of_eq hgw.out.symm); clear hgw hb hbk))
    have hw0 := (blk_cell FW.out.now.1 0).trans (show _ = some (.int .i64 s1) from rfl)
    have hw1 := (blk_cell FW.out.now.1 1).trans (show _ = some (.int .i64 s2) from rfl)
    have hw2 := (blk_cell FW.out.now.1 2).trans (show _ = some (.slice A4 s3.length c4) from rfl)
    have hg0 := (blk_cell HGB.out.now 0).trans (show _ = some (.int .i64 s1) from rfl)
    have hg1 := (blk_cell HGB.out.now 1).trans (show _ = some (.int .i64 s2) from rfl)
    have hg2 := (blk_cell HGB.out.now 2).trans (show _ = some (.slice A7 s3.length c7) from rfl)
    go_upto_region 14 with (go_at_call 16; (with_reducible refine (laws_eqEx.calls kf s1 s2 A7 c7 s3 s1 s2 A4 c4 s3 true _ (OT.C HG.out.now).2 (OT.C HG.out.now).1 FW.out.now.2 hl4 heb).mono ?_); rintro e w9 ⟨rfl, hb⟩; clear hw0 hw1 hw2; clear hg0 hg1 hg2; have mFW_ := Aside0.mk (ft_below FW.out hb); have mHX0_ := Aside0.mk (ft_below HX0.out hb); have mHX1_ := Aside0.mk (ft_below HX1.out hb); have mHG_ := Aside0.mk (ft_below HG.out hb); have mHGB_ := Aside0.mk (ft_below HGB.out hb); have mHB_ := Aside0.mk (HB.out.trans (hb.mono HB.out.size)); clear FW HX0 HX1 HG HGB HB; have FW := mFW_; have HX0 := mHX0_; have HX1 := mHX1_; have HG := mHG_; have HGB := mHGB_; have HB := mHB_; clear mFW_ mHX0_ mHX1_ mHG_ mHGB_ mHB_; have hw0 := (blk_cell FW.out.now.1 0).trans (show _ = some (.int .i64 s1) from rfl); have hw1 := (blk_cell FW.out.now.1 1).trans (show _ = some (.int .i64 s2) from rfl); have hw2 := (blk_cell FW.out.now.1 2).trans (show _ = some (.slice A4 s3.length c4) from rfl); have hg0 := (blk_cell HGB.out.now 0).trans (show _ = some (.int .i64 s1) from rfl); have hg1 := (blk_cell HGB.out.now 1).trans (show _ = some (.int .i64 s2) from rfl); have hg2 := (blk_cell HGB.out.now 2).trans (show _ = some (.slice A7 s3.length c7) from rfl); clear hb)
    go_upto_region 16 with (first
      | (go_at_call 31; (with_reducible refine (toSS.calls kf A0 c0 l0 x0 _ (Kd.C_below hr0 HB.out) hc0 hto0).mono ?_); rintro e wq0 ⟨v3, rfl, hS3, hb⟩; clear hw0 hw1 hw2; clear hg0 hg1 hg2; have mFW_ := Aside0.mk (ft_below FW.out hb); have mHX0_ := Aside0.mk (ft_below HX0.out hb); have mHX1_ := Aside0.mk (ft_below HX1.out hb); have mHG_ := Aside0.mk (ft_below HG.out hb); have mHGB_ := Aside0.mk (ft_below HGB.out hb); have mHB_ := Aside0.mk (HB.out.trans (hb.mono HB.out.size)); clear FW HX0 HX1 HG HGB HB; have FW := mFW_; have HX0 := mHX0_; have HX1 := mHX1_; have HG := mHG_; have HGB := mHGB_; have HB := mHB_; clear mFW_ mHX0_ mHX1_ mHG_ mHGB_ mHB_; have hw0 := (blk_cell FW.out.now.1 0).trans (show _ = some (.int .i64 s1) from rfl); have hw1 := (blk_cell FW.out.now.1 1).trans (show _ = some (.int .i64 s2) from rfl); have hw2 := (blk_cell FW.out.now.1 2).trans (show _ = some (.slice A4 s3.length c4) from rfl); have hg0 := (blk_cell HGB.out.now 0).trans (show _ = some (.int .i64 s1) from rfl); have hg1 := (blk_cell HGB.out.now 1).trans (show _ = some (.int .i64 s2) from rfl); have hg2 := (blk_cell HGB.out.now 2).trans (show _ = some (.slice A7 s3.length c7) from rfl); clear hb; obtain ⟨A0b, c0b, ev_, hl0b, hC0b⟩ := Kd.S_reads hS3; replace hC0b := kS31_C hC0b; clear hS3; subst ev_)
      | (go_at_call 33; (with_reducible refine (laws_eqExS.calls kf A5 c5 x0 A0b c0b x0 true _ (OT.C HX0.out.now).2 (OT.C HX0.out.now).1 hC0b hl0b hex0).mono ?_); rintro e wr0 ⟨rfl, hb⟩; clear hC0b hl0b; clear hw0 hw1 hw2; clear hg0 hg1 hg2; have mFW_ := Aside0.mk (ft_below FW.out hb); have mHX0_ := Aside0.mk (ft_below HX0.out hb); have mHX1_ := Aside0.mk (ft_below HX1.out hb); have mHG_ := Aside0.mk (ft_below HG.out hb); have mHGB_ := Aside0.mk (ft_below HGB.out hb); have mHB_ := Aside0.mk (HB.out.trans (hb.mono HB.out.size)); clear FW HX0 HX1 HG HGB HB; have FW := mFW_; have HX0 := mHX0_; have HX1 := mHX1_; have HG := mHG_; have HGB := mHGB_; have HB := mHB_; clear mFW_ mHX0_ mHX1_ mHG_ mHGB_ mHB_; have hw0 := (blk_cell FW.out.now.1 0).trans (show _ = some (.int .i64 s1) from rfl); have hw1 := (blk_cell FW.out.now.1 1).trans (show _ = some (.int .i64 s2) from rfl); have hw2 := (blk_cell FW.out.now.1 2).trans (show _ = some (.slice A4 s3.length c4) from rfl); have hg0 := (blk_cell HGB.out.now 0).trans (show _ = some (.int .i64 s1) from rfl); have hg1 := (blk_cell HGB.out.now 1).trans (show _ = some (.int .i64 s2) from rfl); have hg2 := (blk_cell HGB.out.now 2).trans (show _ = some (.slice A7 s3.length c7) from rfl); clear hb))
    go_upto_region 18 with (first
      | (go_at_call 31; (with_reducible refine (toSS.calls kf A1 c1 l1 x1 _ (Kd.C_below hr1 HB.out) hc1 hto1).mono ?_); rintro e wq1 ⟨v3, rfl, hS3, hb⟩; clear hw0 hw1 hw2; clear hg0 hg1 hg2; have mFW_ := Aside0.mk (ft_below FW.out hb); have mHX0_ := Aside0.mk (ft_below HX0.out hb); have mHX1_ := Aside0.mk (ft_below HX1.out hb); have mHG_ := Aside0.mk (ft_below HG.out hb); have mHGB_ := Aside0.mk (ft_below HGB.out hb); have mHB_ := Aside0.mk (HB.out.trans (hb.mono HB.out.size)); clear FW HX0 HX1 HG HGB HB; have FW := mFW_; have HX0 := mHX0_; have HX1 := mHX1_; have HG := mHG_; have HGB := mHGB_; have HB := mHB_; clear mFW_ mHX0_ mHX1_ mHG_ mHGB_ mHB_; have hw0 := (blk_cell FW.out.now.1 0).trans (show _ = some (.int .i64 s1) from rfl); have hw1 := (blk_cell FW.out.now.1 1).trans (show _ = some (.int .i64 s2) from rfl); have hw2 := (blk_cell FW.out.now.1 2).trans (show _ = some (.slice A4 s3.length c4) from rfl); have hg0 := (blk_cell HGB.out.now 0).trans (show _ = some (.int .i64 s1) from rfl); have hg1 := (blk_cell HGB.out.now 1).trans (show _ = some (.int .i64 s2) from rfl); have hg2 := (blk_cell HGB.out.now 2).trans (show _ = some (.slice A7 s3.length c7) from rfl); clear hb; obtain ⟨A1b, c1b, ev_, hl1b, hC1b⟩ := Kd.S_reads hS3; replace hC1b := kS31_C hC1b; clear hS3; subst ev_)
      | (go_at_call 33; (with_reducible refine (laws_eqExS.calls kf A6 c6 x1 A1b c1b x1 true _ (OT.C HX1.out.now).2 (OT.C HX1.out.now).1 hC1b hl1b hex1).mono ?_); rintro e wr1 ⟨rfl, hb⟩; clear hC1b hl1b; clear hw0 hw1 hw2; clear hg0 hg1 hg2; have mFW_ := Aside0.mk (ft_below FW.out hb); have mHX0_ := Aside0.mk (ft_below HX0.out hb); have mHX1_ := Aside0.mk (ft_below HX1.out hb); have mHG_ := Aside0.mk (ft_below HG.out hb); have mHGB_ := Aside0.mk (ft_below HGB.out hb); have mHB_ := Aside0.mk (HB.out.trans (hb.mono HB.out.size)); clear FW HX0 HX1 HG HGB HB; have FW := mFW_; have HX0 := mHX0_; have HX1 := mHX1_; have HG := mHG_; have HGB := mHGB_; have HB := mHB_; clear mFW_ mHX0_ mHX1_ mHG_ mHGB_ mHB_; have hw0 := (blk_cell FW.out.now.1 0).trans (show _ = some (.int .i64 s1) from rfl); have hw1 := (blk_cell FW.out.now.1 1).trans (show _ = some (.int .i64 s2) from rfl); have hw2 := (blk_cell FW.out.now.1 2).trans (show _ = some (.slice A4 s3.length c4) from rfl); have hg0 := (blk_cell HGB.out.now 0).trans (show _ = some (.int .i64 s1) from rfl); have hg1 := (blk_cell HGB.out.now 1).trans (show _ = some (.int .i64 s2) from rfl); have hg2 := (blk_cell HGB.out.now 2).trans (show _ = some (.slice A7 s3.length c7) from rfl); clear hb))
    go_upto_region 20 with (go_at_call 34; (with_reducible refine (markExS_any (SizeOf.sizeOf x0 + 1) x0 (Nat.lt_succ_self _) (fun k_ => w4.heap.size ≤ k_ ∧ k_ < w5.heap.size) (.slice A5 x0.length c5) (1 : Int) w _ HB.out (fun k_ hk_ => by have g_ : w4.heap.size ≤ k_ ∧ k_ < w5.heap.size := hk_; have := HW4.out; have := H45.out; have := H56.out; have := H67.out; have := HGG.out; omega) HX0.out.now (by have := hnx.out; omega) (by have := hnx.out; omega)).mono ?_); rintro e wm0 ⟨rfl, hO_, hbB, hbK⟩; clear HX0 hO_; clear hw0 hw1 hw2; clear hg0 hg1 hg2; have mFW_ := Aside0.mk (ft_kept FW.out hbK (fun k_ hk_ hs_ => by have g1_ : k_ < w4.heap.size := hk_; have g2_ : w4.heap.size ≤ k_ ∧ k_ < w5.heap.size := hs_; have := H45.out; have := H56.out; have := H67.out; have := HGG.out; omega)); have mHX1_ := Aside0.mk (ft_kept HX1.out hbK (fun k_ hk_ hs_ => by have g1_ : w5.heap.size ≤ k_ ∧ k_ < w6.heap.size := hk_; have g2_ : w4.heap.size ≤ k_ ∧ k_ < w5.heap.size := hs_; have := H45.out; have := H56.out; have := H67.out; have := HGG.out; omega)); have mHG_ := Aside0.mk (ft_kept HG.out hbK (fun k_ hk_ hs_ => by have g1_ : w6.heap.size ≤ k_ ∧ k_ < w7.heap.size := hk_; have g2_ : w4.heap.size ≤ k_ ∧ k_ < w5.heap.size := hs_; have := H45.out; have := H56.out; have := H67.out; have := HGG.out; omega)); have mHGB_ := Aside0.mk (ft_kept HGB.out hbK (fun k_ hk_ hs_ => by have g1_ : k_ = gb7 := hk_; have g2_ : w4.heap.size ≤ k_ ∧ k_ < w5.heap.size := hs_; have := H45.out; have := H56.out; have := H67.out; have := HGG.out; omega)); have mHB_ := Aside0.mk (hbB); clear FW HX1 HG HGB HB; have FW := mFW_; have HX1 := mHX1_; have HG := mHG_; have HGB := mHGB_; have HB := mHB_; clear mFW_ mHX1_ mHG_ mHGB_ mHB_; have hw0 := (blk_cell FW.out.now.1 0).trans (show _ = some (.int .i64 s1) from rfl); have hw1 := (blk_cell FW.out.now.1 1).trans (show _ = some (.int .i64 s2) from rfl); have hw2 := (blk_cell FW.out.now.1 2).trans (show _ = some (.slice A4 s3.length c4) from rfl); have hg0 := (blk_cell HGB.out.now 0).trans (show _ = some (.int .i64 s1) from rfl); have hg1 := (blk_cell HGB.out.now 1).trans (show _ = some (.int .i64 s2) from rfl); have hg2 := (blk_cell HGB.out.now 2).trans (show _ = some (.slice A7 s3.length c7) from rfl); clear hbK hbB)
    go_upto_region 21 with (go_at_call 34; (with_reducible refine (markExS_any (SizeOf.sizeOf x1 + 1) x1 (Nat.lt_succ_self _) (fun k_ => w5.heap.size ≤ k_ ∧ k_ < w6.heap.size) (.slice A6 x1.length c6) ((1 : Int) + 2 * nL x0) w _ HB.out (fun k_ hk_ => by have g_ : w5.heap.size ≤ k_ ∧ k_ < w6.heap.size := hk_; have := HW4.out; have := H45.out; have := H56.out; have := H67.out; have := HGG.out; omega) HX1.out.now (by have := hnx.out; omega) (by have := hnx.out; omega)).mono ?_); rintro e wm1 ⟨rfl, hO_, hbB, hbK⟩; clear HX1 hO_; clear hw0 hw1 hw2; clear hg0 hg1 hg2; have mFW_ := Aside0.mk (ft_kept FW.out hbK (fun k_ hk_ hs_ => by have g1_ : k_ < w4.heap.size := hk_; have g2_ : w5.heap.size ≤ k_ ∧ k_ < w6.heap.size := hs_; have := H45.out; have := H56.out; have := H67.out; have := HGG.out; omega)); have mHG_ := Aside0.mk (ft_kept HG.out hbK (fun k_ hk_ hs_ => by have g1_ : w6.heap.size ≤ k_ ∧ k_ < w7.heap.size := hk_; have g2_ : w5.heap.size ≤ k_ ∧ k_ < w6.heap.size := hs_; have := H45.out; have := H56.out; have := H67.out; have := HGG.out; omega)); have mHGB_ := Aside0.mk (ft_kept HGB.out hbK (fun k_ hk_ hs_ => by have g1_ : k_ = gb7 := hk_; have g2_ : w5.heap.size ≤ k_ ∧ k_ < w6.heap.size := hs_; have := H45.out; have := H56.out; have := H67.out; have := HGG.out; omega)); have mHB_ := Aside0.mk (hbB); clear FW HG HGB HB; have FW := mFW_; have HG := mHG_; have HGB := mHGB_; have HB := mHB_; clear mFW_ mHG_ mHGB_ mHB_; have hw0 := (blk_cell FW.out.now.1 0).trans (show _ = some (.int .i64 s1) from rfl); have hw1 := (blk_cell FW.out.now.1 1).trans (show _ = some (.int .i64 s2) from rfl); have hw2 := (blk_cell FW.out.now.1 2).trans (show _ = some (.slice A4 s3.length c4) from rfl); have hg0 := (blk_cell HGB.out.now 0).trans (show _ = some (.int .i64 s1) from rfl); have hg1 := (blk_cell HGB.out.now 1).trans (show _ = some (.int .i64 s2) from rfl); have hg2 := (blk_cell HGB.out.now 2).trans (show _ = some (.slice A7 s3.length c7) from rfl); clear hbK hbB)
    have hk0 : ¬ ((((1 : Int) + 2 * nL x0) + 2 * nL x1) < 0) := by have := hnx.out; omega
    go_upto_region 24 with (go_at_call 16; (with_reducible refine (laws_eqEx.calls kf s1 s2 A7 c7 s3 s1 s2 A4 c4 s3 true _ (OT.C HG.out.now).2 (OT.C HG.out.now).1 FW.out.now.2 hl4 heb).mono ?_); rintro e w10 ⟨rfl, hb⟩; clear hw0 hw1 hw2; clear hg0 hg1 hg2; have mFW_ := Aside0.mk (ft_below FW.out hb); have mHG_ := Aside0.mk (ft_below HG.out hb); have mHGB_ := Aside0.mk (ft_below HGB.out hb); have mHB_ := Aside0.mk (HB.out.trans (hb.mono HB.out.size)); clear FW HG HGB HB; have FW := mFW_; have HG := mHG_; have HGB := mHGB_; have HB := mHB_; clear mFW_ mHG_ mHGB_ mHB_; have hw0 := (blk_cell FW.out.now.1 0).trans (show _ = some (.int .i64 s1) from rfl); have hw1 := (blk_cell FW.out.now.1 1).trans (show _ = some (.int .i64 s2) from rfl); have hw2 := (blk_cell FW.out.now.1 2).trans (show _ = some (.slice A4 s3.length c4) from rfl); have hg0 := (blk_cell HGB.out.now 0).trans (show _ = some (.int .i64 s1) from rfl); have hg1 := (blk_cell HGB.out.now 1).trans (show _ = some (.int .i64 s2) from rfl); have hg2 := (blk_cell HGB.out.now 2).trans (show _ = some (.slice A7 s3.length c7) from rfl); clear hb)
    go_upto_region 26 with (go_at_call 35; (with_reducible refine (markEx_any s3 (fun k_ => w6.heap.size ≤ k_ ∧ k_ < w7.heap.size) A7 s3.length c7 rfl s1 s2 1 w _ HB.out (fun k_ hk_ => by have g_ : w6.heap.size ≤ k_ ∧ k_ < w7.heap.size := hk_; have := HW4.out; have := H45.out; have := H56.out; have := H67.out; have := HGG.out; omega) HG.out.now (by decide) (by have := hnx.out; omega)).mono ?_); rintro e w11 ⟨rfl, hO_, hbB, hbK⟩; have hO2 := ft_OT hO_; clear HG hO_; clear hw0 hw1 hw2; clear hg0 hg1 hg2; have mFW_ := Aside0.mk (ft_kept FW.out hbK (fun k_ hk_ hs_ => by have g1_ : k_ < w4.heap.size := hk_; have g2_ : w6.heap.size ≤ k_ ∧ k_ < w7.heap.size := hs_.1; have := H45.out; have := H56.out; have := H67.out; have := HGG.out; omega)); have mHGB_ := Aside0.mk (ft_kept HGB.out hbK (fun k_ hk_ hs_ => by have g1_ : k_ = gb7 := hk_; have g2_ : w6.heap.size ≤ k_ ∧ k_ < w7.heap.size := hs_.1; have := H45.out; have := H56.out; have := H67.out; have := HGG.out; omega)); have mHB_ := Aside0.mk (hbB); clear FW HGB HB; have FW := mFW_; have HGB := mHGB_; have HB := mHB_; clear mFW_ mHGB_ mHB_; have hw0 := (blk_cell FW.out.now.1 0).trans (show _ = some (.int .i64 s1) from rfl); have hw1 := (blk_cell FW.out.now.1 1).trans (show _ = some (.int .i64 s2) from rfl); have hw2 := (blk_cell FW.out.now.1 2).trans (show _ = some (.slice A4 s3.length c4) from rfl); have hg0 := (blk_cell HGB.out.now 0).trans (show _ = some (.int .i64 s1) from rfl); have hg1 := (blk_cell HGB.out.now 1).trans (show _ = some (.int .i64 s2) from rfl); have hg2 := (blk_cell HGB.out.now 2).trans (show _ = some (.slice A7 s3.length c7) from rfl); have HG := Aside0.mk hO2; clear hbK hbB hO2)
    go_upto_region 31 with (go_at_call 36; (with_reducible refine (heldE_at kf s1 s2 A7 s3.length c7 (mkL s3 1) (mkL_length s3 1) 1 (1 + 2 * nL s3) _ HG.out.now hhb).mono ?_); rintro e w12 ⟨rfl, hb⟩; clear hw0 hw1 hw2; clear hg0 hg1 hg2; have mFW_ := Aside0.mk (ft_below FW.out hb); have mHGB_ := Aside0.mk (ft_below HGB.out hb); have mHG_ := Aside0.mk (ft_below HG.out hb); have mHB_ := Aside0.mk (HB.out.trans (hb.mono HB.out.size)); clear FW HGB HG HB; have FW := mFW_; have HGB := mHGB_; have HG := mHG_; have HB := mHB_; clear mFW_ mHGB_ mHG_ mHB_; have hw0 := (blk_cell FW.out.now.1 0).trans (show _ = some (.int .i64 s1) from rfl); have hw1 := (blk_cell FW.out.now.1 1).trans (show _ = some (.int .i64 s2) from rfl); have hw2 := (blk_cell FW.out.now.1 2).trans (show _ = some (.slice A4 s3.length c4) from rfl); have hg0 := (blk_cell HGB.out.now 0).trans (show _ = some (.int .i64 s1) from rfl); have hg1 := (blk_cell HGB.out.now 1).trans (show _ = some (.int .i64 s2) from rfl); have hg2 := (blk_cell HGB.out.now 2).trans (show _ = some (.slice A7 s3.length c7) from rfl); clear hb)
    go_upto_region 32 with (first
      | (go_at_call 31; (with_reducible refine (toSS.calls kf A0 c0 l0 x0 _ (Kd.C_below hr0 HB.out) hc0 hto0).mono ?_); rintro e wu0 ⟨v3, rfl, hS3, hb⟩; clear hw0 hw1 hw2; clear hg0 hg1 hg2; have mFW_ := Aside0.mk (ft_below FW.out hb); have mHGB_ := Aside0.mk (ft_below HGB.out hb); have mHG_ := Aside0.mk (ft_below HG.out hb); have mHB_ := Aside0.mk (HB.out.trans (hb.mono HB.out.size)); clear FW HGB HG HB; have FW := mFW_; have HGB := mHGB_; have HG := mHG_; have HB := mHB_; clear mFW_ mHGB_ mHG_ mHB_; have hw0 := (blk_cell FW.out.now.1 0).trans (show _ = some (.int .i64 s1) from rfl); have hw1 := (blk_cell FW.out.now.1 1).trans (show _ = some (.int .i64 s2) from rfl); have hw2 := (blk_cell FW.out.now.1 2).trans (show _ = some (.slice A4 s3.length c4) from rfl); have hg0 := (blk_cell HGB.out.now 0).trans (show _ = some (.int .i64 s1) from rfl); have hg1 := (blk_cell HGB.out.now 1).trans (show _ = some (.int .i64 s2) from rfl); have hg2 := (blk_cell HGB.out.now 2).trans (show _ = some (.slice A7 s3.length c7) from rfl); clear hb; obtain ⟨A0b, c0b, ev_⟩ := Kd.S_slice hS3; subst ev_; have hV0 := OT.of _ x0 (Nat.lt_succ_self _) hS3; clear hS3)
      | (go_at_call 31; (with_reducible refine (toSS.calls kf A1 c1 l1 x1 _ (Kd.C_below hr1 HB.out) hc1 hto1).mono ?_); rintro e wu1 ⟨v3, rfl, hS3, hb⟩; clear hw0 hw1 hw2; clear hg0 hg1 hg2; have mFW_ := Aside0.mk (ft_below FW.out hb); have mHGB_ := Aside0.mk (ft_below HGB.out hb); have mHG_ := Aside0.mk (ft_below HG.out hb); have mHB_ := Aside0.mk (HB.out.trans (hb.mono HB.out.size)); clear FW HGB HG HB; have FW := mFW_; have HGB := mHGB_; have HG := mHG_; have HB := mHB_; clear mFW_ mHGB_ mHG_ mHB_; have hw0 := (blk_cell FW.out.now.1 0).trans (show _ = some (.int .i64 s1) from rfl); have hw1 := (blk_cell FW.out.now.1 1).trans (show _ = some (.int .i64 s2) from rfl); have hw2 := (blk_cell FW.out.now.1 2).trans (show _ = some (.slice A4 s3.length c4) from rfl); have hg0 := (blk_cell HGB.out.now 0).trans (show _ = some (.int .i64 s1) from rfl); have hg1 := (blk_cell HGB.out.now 1).trans (show _ = some (.int .i64 s2) from rfl); have hg2 := (blk_cell HGB.out.now 2).trans (show _ = some (.slice A7 s3.length c7) from rfl); have hV0 := hV0.move (fun k_ _ hlt_ => hb.block k_ hlt_); clear hb; obtain ⟨A1b, c1b, ev_⟩ := Kd.S_slice hS3; subst ev_; have hV1 := OT.of _ x1 (Nat.lt_succ_self _) hS3; clear hS3)
      | (go_at_call 38; (with_reducible refine (equalS.calls kf _ A0b c0b x0 _ A1b c1b x1 s1 s2 s3 s4 _ (OT.V hV0) (OT.V hV1) him).mono ?_); rintro e w20 ⟨v8, rfl, hS8, hb⟩; clear hV0 hV1; clear hw0 hw1 hw2; clear hg0 hg1 hg2; have mFW_ := Aside0.mk (ft_below FW.out hb); have mHGB_ := Aside0.mk (ft_below HGB.out hb); have mHG_ := Aside0.mk (ft_below HG.out hb); have mHB_ := Aside0.mk (HB.out.trans (hb.mono HB.out.size)); clear FW HGB HG HB; have FW := mFW_; have HGB := mHGB_; have HG := mHG_; have HB := mHB_; clear mFW_ mHGB_ mHG_ mHB_; have hw0 := (blk_cell FW.out.now.1 0).trans (show _ = some (.int .i64 s1) from rfl); have hw1 := (blk_cell FW.out.now.1 1).trans (show _ = some (.int .i64 s2) from rfl); have hw2 := (blk_cell FW.out.now.1 2).trans (show _ = some (.slice A4 s3.length c4) from rfl); have hg0 := (blk_cell HGB.out.now 0).trans (show _ = some (.int .i64 s1) from rfl); have hg1 := (blk_cell HGB.out.now 1).trans (show _ = some (.int .i64 s2) from rfl); have hg2 := (blk_cell HGB.out.now 2).trans (show _ = some (.slice A7 s3.length c7) from rfl); clear hb; obtain ⟨A8, c8, ev8⟩ := Kd.S_slice hS8; subst ev8; have hO8 := ft_OT (OT.of _ s3 (Nat.lt_succ_self _) hS8); clear hS8)
      | ((with_reducible refine gate_dst (N := 15) rfl ?_); refine box_event ?hg (N := 15) ?hd (cs := #[.int .i64 0, .int .i64 0, .slice none 0 0]) (t := 31) ?hr ?_; (case hd => rfl); (case hg => rfl); (case hr => first | (go_simp; done) | (go_simp; rfl)); intro gb9 hgw wb9 hbox hbb; have hcz0 := (blk_cell hbox 0).trans (show _ = some (.int .i64 0) from rfl); have hcz1 := (blk_cell hbox 1).trans (show _ = some (.int .i64 0) from rfl); have hcz2 := (blk_cell hbox 2).trans (show _ = some (.slice none 0 0) from rfl); have hfz0 := blk_frozen hbox 0; have hfz1 := blk_frozen hbox 1; have hfz2 := blk_frozen hbox 2; have hgw_ := Aside0.mk hgw; clear hgw; have hgw := hgw_; clear hgw_)
      | ((with_reducible refine gate_store (t := 31) (p := 15) rfl ?_); refine store_event (t := 31) (p := 15) (v := ?vo_15) (w1 := ((wb9.setCell ⟨gb9, 0, none⟩ (.int .i64 s1)).setCell ⟨gb9, 1, none⟩ (.int .i64 s2)).setCell ⟨gb9, 2, none⟩ (.slice A8 s3.length c8)) ?hg ?ho ?hn ?hr ?_; (case ho => rfl); (case hg => rfl); (case hn => rfl); (case hr => first | (go_simp; done) | (go_simp; rfl)); clear hcz0 hcz1 hcz2 hfz0 hfz1 hfz2; intro w21 hw_; obtain ⟨hbk, hb⟩ := box3 (a := .int .i64 s1) (b := .int .i64 s2) (v := .slice A8 s3.length c8) hgw.out hbox hbb; rw [← hw_] at hbk hb; clear hw_ hbox hbb; clear hw0 hw1 hw2; clear hg0 hg1 hg2; have mFW_ := Aside0.mk (ft_below FW.out hb); have mHGB_ := Aside0.mk (ft_below HGB.out hb); have mHG_ := Aside0.mk (ft_below HG.out hb); have mHB_ := Aside0.mk (HB.out.trans (hb.mono HB.out.size)); clear FW HGB HG HB; have FW := mFW_; have HGB := mHGB_; have HG := mHG_; have HB := mHB_; clear mFW_ mHGB_ mHG_ mHB_; have hw0 := (blk_cell FW.out.now.1 0).trans (show _ = some (.int .i64 s1) from rfl); have hw1 := (blk_cell FW.out.now.1 1).trans (show _ = some (.int .i64 s2) from rfl); have hw2 := (blk_cell FW.out.now.1 2).trans (show _ = some (.slice A4 s3.length c4) from rfl); have hg0 := (blk_cell HGB.out.now 0).trans (show _ = some (.int .i64 s1) from rfl); have hg1 := (blk_cell HGB.out.now 1).trans (show _ = some (.int .i64 s2) from rfl); have hg2 := (blk_cell HGB.out.now 2).trans (show _ = some (.slice A7 s3.length c7) from rfl); replace hO8 := ft_below hO8 hb; have hu0 := (blk_cell hbk 0).trans (show _ = some (.int .i64 s1) from rfl); have hu1 := (blk_cell hbk 1).trans (show _ = some (.int .i64 s2) from rfl); have hu2 := (blk_cell hbk 2).trans (show _ = some (.slice A8 s3.length c8) from rfl); clear hgw hb hbk))
    go_upto_region 34 with (go_at_call 16; (with_reducible refine (laws_eqEx.calls kf s1 s2 A8 c8 s3 s1 s2 A4 c4 s3 true _ (OT.C hO8.now).2 (OT.C hO8.now).1 FW.out.now.2 hl4 heb).mono ?_); rintro e w22 ⟨rfl, hb⟩; clear hO8 hu0 hu1 hu2; clear hw0 hw1 hw2; clear hg0 hg1 hg2; have mFW_ := Aside0.mk (ft_below FW.out hb); have mHGB_ := Aside0.mk (ft_below HGB.out hb); have mHG_ := Aside0.mk (ft_below HG.out hb); have mHB_ := Aside0.mk (HB.out.trans (hb.mono HB.out.size)); clear FW HGB HG HB; have FW := mFW_; have HGB := mHGB_; have HG := mHG_; have HB := mHB_; clear mFW_ mHGB_ mHG_ mHB_; have hw0 := (blk_cell FW.out.now.1 0).trans (show _ = some (.int .i64 s1) from rfl); have hw1 := (blk_cell FW.out.now.1 1).trans (show _ = some (.int .i64 s2) from rfl); have hw2 := (blk_cell FW.out.now.1 2).trans (show _ = some (.slice A4 s3.length c4) from rfl); have hg0 := (blk_cell HGB.out.now 0).trans (show _ = some (.int .i64 s1) from rfl); have hg1 := (blk_cell HGB.out.now 1).trans (show _ = some (.int .i64 s2) from rfl); have hg2 := (blk_cell HGB.out.now 2).trans (show _ = some (.slice A7 s3.length c7) from rfl); clear hb)
    go_wp2_with (go_at_call 36; (with_reducible refine (heldE_at kf s1 s2 A7 s3.length c7 (mkL s3 1) (mkL_length s3 1) 1 (1 + 2 * nL s3) _ HG.out.now hhb).mono ?_); rintro e w23 ⟨rfl, hb⟩; clear hw0 hw1 hw2; clear hg0 hg1 hg2; have mFW_ := Aside0.mk (ft_below FW.out hb); have mHGB_ := Aside0.mk (ft_below HGB.out hb); have mHG_ := Aside0.mk (ft_below HG.out hb); have mHB_ := Aside0.mk (HB.out.trans (hb.mono HB.out.size)); clear FW HGB HG HB; have FW := mFW_; have HGB := mHGB_; have HG := mHG_; have HB := mHB_; clear mFW_ mHGB_ mHG_ mHB_; have hw0 := (blk_cell FW.out.now.1 0).trans (show _ = some (.int .i64 s1) from rfl); have hw1 := (blk_cell FW.out.now.1 1).trans (show _ = some (.int .i64 s2) from rfl); have hw2 := (blk_cell FW.out.now.1 2).trans (show _ = some (.slice A4 s3.length c4) from rfl); have hg0 := (blk_cell HGB.out.now 0).trans (show _ = some (.int .i64 s1) from rfl); have hg1 := (blk_cell HGB.out.now 1).trans (show _ = some (.int .i64 s2) from rfl); have hg2 := (blk_cell HGB.out.now 2).trans (show _ = some (.slice A7 s3.length c7) from rfl); clear hb)
    go_ret
    exact ⟨rfl, HB.out⟩
  · rw [if_neg hc] at h
    cases h

end Go.Proofs.Ytcmkkoggdcjceaa.PFnExactEqualEx
