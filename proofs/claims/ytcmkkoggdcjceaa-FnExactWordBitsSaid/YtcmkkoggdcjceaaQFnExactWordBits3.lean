/- FnExactWordBits: for every input the law returns true. The texts that this program's session printed and proved for it, those that the proof uses, laid together. Conditions: the form's own reach alone. -/
import Derived.Test.YtcmkkoggdcjceaaQFnExactWordBits2
section
namespace Go.Proofs.Ytcmkkoggdcjceaa.PFnExactWordBits
open Go.RowKit Go.Proofs.YtcmkkoggdcjceaaW.PrintWords Go.Proofs.YtcmkkoggdcjceaaW.PrintLast Go.Proofs.YtcmkkoggdcjceaaW.PrintMore
attribute [local go_sem] max2_int min2_int max_two min_two max_three min_three max_four min_four   -- for this text's walks alone
set_option linter.unusedVariables false
set_option linter.unusedSimpArgs false
def spec_l05Fits.l0 : Nat → List (S31) → Int → Option (Bool)
 | 0, _, _ => none
 | k + 1, x0, x3 => if x3 < (x0.length : Int) then (if 0 ≤ x3 then ((spec_ExOK.f k ((rd_T31 x0 x3).f0) ((rd_T31 x0 x3).f1) ((rd_T31 x0 x3).f2)).bind fun t142 => (if t142 = true then (spec_l05Fits.l0 k x0 (wrap64 (x3 + 1))) else (some false))) else (none)) else (some true)
def spec_l05Fits.f (k : Nat) (l0 : List (S31)) : Option (Bool) := spec_l05Fits.l0 k l0 0
set_option maxHeartbeats 8000000 in
set_option maxRecDepth 100000 in
theorem spec_l05Fits.calls (k : Nat) (A0 : Option Addr) (c0 : Nat) (l0 : List (S31)) (r : Bool) (w : World) (hr0 : Kd.C k31 w A0 l0.length l0) (hc0 : l0.length ≤ c0) (h : spec_l05Fits.f k l0 = some r) :
  Calls Try.prog 77 #[.slice A0 l0.length c0] w fun e w' => e = .returned (.bool r) ∧ Below w.heap.size w w' := by
 have hu31 := Try.underlying31
 have HR0 := Aside0.mk hr0
 have HC0 := Aside0.mk hc0
 clear hr0 hc0
 have HB := Aside0.mk (Below.refl w.heap.size w)
 have H : (spec_l05Fits.l0 k l0 0) = some r := h
 clear h
 have H' := Aside0.mk H
 clear H
 go_enter Try.func77, Try.ntmps77
 go_wp2
 go_loopg [3] k (fun kq v3 w' => ∃ (x3_1 : Int), v3 = .int .i64 x3_1 ∧ Aside0 (spec_l05Fits.l0 kq l0 x3_1 = some r) ∧ Aside0 (kq ≤ k) ∧ Aside0 (Below w.heap.size w w'))
 case atStart => exact ⟨(0), (by first | rfl | (simp; done) | (simp [*]; done)), H', ⟨Nat.le_refl _⟩, ⟨by repeat (first | (with_reducible first | exact HB.out | apply below_alloc | apply pw_below_drewN | apply below_drew1) | exact HB.out)⟩⟩
 case round =>
  clear H'
  obtain ⟨x3_1, rfl, HA, HK1, HB⟩ := hrel
  cases gk with
  | zero => exact absurd HA.out (by simp [spec_l05Fits.l0])
  | succ k1 =>
   have H := HA.out
   clear HA
   simp only [spec_l05Fits.l0] at H
   by_cases c2 : x3_1 < (l0.length : Int)
   ·rw [if_pos c2] at H
    have c2b0 : decide (x3_1 < (l0.length : Int)) = true := decide_eq_true c2
    clear c2
    by_cases c3 : 0 ≤ x3_1
    ·rw [if_pos c3] at H
     have c3b0 : decide (0 ≤ x3_1) = true := decide_eq_true c3
     clear c3
     replace H := Option.bind_eq_some_iff.mp H
     obtain ⟨t142, A40, H⟩ := H
     replace H : (if t142 = true then (spec_l05Fits.l0 k1 l0 (wrap64 (x3_1 + 1))) else (some false)) = some r := H
     have A4 := Aside0.mk A40
     clear A40
     by_cases c5 : t142 = true
     ·subst c5
      have H1 : (spec_l05Fits.l0 k1 l0 (wrap64 (x3_1 + 1))) = some r := by rw [if_pos rfl] at H; exact H
      clear H
      have H := H1
      clear H1
      have H' := Aside0.mk H
      clear H
      have p141 : 0 ≤ (x3_1 : Int) := of_decide_eq_true (by first | (with_reducible assumption) | assumption)
      have q141 : x3_1 < (l0.length : Int) := of_decide_eq_true (by first | (with_reducible assumption) | assumption)
      obtain ⟨ad141, A141_2, c141_2, e141, hx141_0, hx141_1, hx141_2, hl141_2, hi141_2⟩ := at_T31 HR0.out x3_1 p141 q141
      cases e141
      replace hx141_0 := (HB.out.cell (World.block_lt_of_cell? w _ hx141_0)).trans hx141_0
      replace hx141_1 := (HB.out.cell (World.block_lt_of_cell? w _ hx141_1)).trans hx141_1
      replace hx141_2 := (HB.out.cell (World.block_lt_of_cell? w _ hx141_2)).trans hx141_2
      have HR141_2 := Aside0.mk hi141_2
      have HC141_2 := Aside0.mk hl141_2
      clear hi141_2 hl141_2
      replace p141 := eq_true p141
      replace q141 := eq_true q141
      go_wp2_with (first | ((with_reducible refine gate_callee (f := 57) rfl ?_); refine goesL_ (some 14) rfl rfl Try.func57 (by kernel_rfl) rfl #[.agg #[.int .i64 ((rd_T31 l0 x3_1).f0), .int .i64 ((rd_T31 l0 x3_1).f1), .slice A141_2 ((rd_T31 l0 x3_1).f2).length c141_2]] rfl (by (try simp only [List.map_toArray, List.map_cons, List.map_nil]); first | done | rfl | (simp only [List.length_drop, List.length_take]; rfl)) ?_; (with_reducible refine (spec_ExOK.calls k1 ((rd_T31 l0 x3_1).f0) ((rd_T31 l0 x3_1).f1) _ _ ((rd_T31 l0 x3_1).f2) true _ ?side1 ?side2 A4.out).mono ?_); (case side1 => repeat (first | exact (Kd.C_below HR141_2.out HB.out) | (with_reducible refine Kd.C_alloc ?_ _) | (with_reducible refine Kd.C_drewN ?_ _) | (with_reducible refine Kd.C_drew ?_))); (case side2 => exact HC141_2.out); rintro e w6 ⟨rfl, hb⟩; refine ⟨_, rfl, ?_⟩; have n0_ := Aside0.mk (below_step (by repeat (first | (with_reducible first | exact HB.out | apply below_alloc | apply pw_below_drewN | apply below_drew1) | exact HB.out)) hb); clear HB; have HB := n0_; clear n0_; (try clear hb); (try clear hb2); (try clear hk); (try clear hi)))
      go_roundg k1
      case measure => have := HK1.out; omega
      case rel => exact ⟨(wrap64 (x3_1 + 1)), (by first | rfl | (simp; done) | (simp [*]; done)), H', ⟨by have := HK1.out; omega⟩, ⟨by repeat (first | (with_reducible first | exact HB.out | apply below_alloc | apply pw_below_drewN | apply below_drew1) | exact HB.out)⟩⟩
     ·replace c5 := Bool.eq_false_iff.mpr c5
      subst c5
      have H1 : (some false) = some r := by rw [if_neg (show ¬ (false = true) by decide)] at H; exact H
      clear H
      have H := H1
      clear H1
      obtain rfl := Option.some.inj H
      have p141 : 0 ≤ (x3_1 : Int) := of_decide_eq_true (by first | (with_reducible assumption) | assumption)
      have q141 : x3_1 < (l0.length : Int) := of_decide_eq_true (by first | (with_reducible assumption) | assumption)
      obtain ⟨ad141, A141_2, c141_2, e141, hx141_0, hx141_1, hx141_2, hl141_2, hi141_2⟩ := at_T31 HR0.out x3_1 p141 q141
      cases e141
      replace hx141_0 := (HB.out.cell (World.block_lt_of_cell? w _ hx141_0)).trans hx141_0
      replace hx141_1 := (HB.out.cell (World.block_lt_of_cell? w _ hx141_1)).trans hx141_1
      replace hx141_2 := (HB.out.cell (World.block_lt_of_cell? w _ hx141_2)).trans hx141_2
      have HR141_2 := Aside0.mk hi141_2
      have HC141_2 := Aside0.mk hl141_2
      clear hi141_2 hl141_2
      replace p141 := eq_true p141
      replace q141 := eq_true q141
      go_wp2_with (first | ((with_reducible refine gate_callee (f := 57) rfl ?_); refine goesL_ (some 14) rfl rfl Try.func57 (by kernel_rfl) rfl #[.agg #[.int .i64 ((rd_T31 l0 x3_1).f0), .int .i64 ((rd_T31 l0 x3_1).f1), .slice A141_2 ((rd_T31 l0 x3_1).f2).length c141_2]] rfl (by (try simp only [List.map_toArray, List.map_cons, List.map_nil]); first | done | rfl | (simp only [List.length_drop, List.length_take]; rfl)) ?_; (with_reducible refine (spec_ExOK.calls k1 ((rd_T31 l0 x3_1).f0) ((rd_T31 l0 x3_1).f1) _ _ ((rd_T31 l0 x3_1).f2) false _ ?side1 ?side2 A4.out).mono ?_); (case side1 => repeat (first | exact (Kd.C_below HR141_2.out HB.out) | (with_reducible refine Kd.C_alloc ?_ _) | (with_reducible refine Kd.C_drewN ?_ _) | (with_reducible refine Kd.C_drew ?_))); (case side2 => exact HC141_2.out); rintro e w7 ⟨rfl, hb⟩; refine ⟨_, rfl, ?_⟩; have n0_ := Aside0.mk (below_step (by repeat (first | (with_reducible first | exact HB.out | apply below_alloc | apply pw_below_drewN | apply below_drew1) | exact HB.out)) hb); clear HB; have HB := n0_; clear n0_; (try clear hb); (try clear hb2); (try clear hk); (try clear hi)))
      go_ret
      exact ⟨by first | rfl | (simp [errW_none, errW_some] <;> rfl) | (simp [*, errW_none, errW_some] <;> rfl), by repeat (first | (with_reducible first | exact HB.out | apply below_alloc | apply pw_below_drewN | apply below_drew1) | exact HB.out)⟩
    ·rw [if_neg c3] at H
     exact absurd H (by simp)
   ·rw [if_neg c2] at H
    have c2b0 : decide (x3_1 < (l0.length : Int)) = false := decide_eq_false c2
    clear c2
    obtain rfl := Option.some.inj H
    go_wp2
    go_ret
    exact ⟨by first | rfl | (simp [errW_none, errW_some] <;> rfl) | (simp [*, errW_none, errW_some] <;> rfl), by repeat (first | (with_reducible first | exact HB.out | apply below_alloc | apply pw_below_drewN | apply below_drew1) | exact HB.out)⟩
mutual
def spec_l05Left.l0 : Nat → Int → Int → Int → Int → List (S81) → Option (Int)
 | 0, _, _, _, _, _ => none
 | k + 1, x1, x5, x144000, x144001, x144002 => if x5 < (x144002.length : Int) then (if x1 ≥ 0 then (if 0 ≤ x5 then ((spec_l05Left.f k ((rd_T81 x144002 x5).f0) ((rd_T81 x144002 x5).f1) ((rd_T81 x144002 x5).f2) x1).bind fun t145 => (spec_l05Left.l0 k t145 (wrap64 (x5 + 1)) x144000 x144001 x144002)) else (none)) else (some x1)) else (some x1)
def spec_l05Left.f : Nat → Int → Int → List (S81) → Int → Option (Int)
 | 0, _, _, _, _ => none
 | k + 1, a0_0, a0_1, l0_2, a1 => spec_l05Left.l0 k (wrap64 (a1 - 1)) 0 a0_0 a0_1 l0_2
end
set_option maxHeartbeats 8000000 in
set_option maxRecDepth 100000 in
theorem spec_l05Left.calls (k : Nat) : ∀ (a0_0 : Int) (a0_1 : Int) (A0_2 : Option Addr) (c0_2 : Nat) (l0_2 : List (S81)) (a1 : Int) (r : Int) (w : World) (hr0_2 : Kd.C k81 w A0_2 l0_2.length l0_2) (hc0_2 : l0_2.length ≤ c0_2) (h : spec_l05Left.f k a0_0 a0_1 l0_2 a1 = some r),
  Calls Try.prog 128 #[.agg #[.int .i64 a0_0, .int .i64 a0_1, .slice A0_2 l0_2.length c0_2], .int .i64 a1] w fun e w' => e = .returned (.int .i64 r) ∧ Below w.heap.size w w' := by
 induction k using Nat.strongRecOn with
 | _ k ih =>
 intro a0_0 a0_1 A0_2 c0_2 l0_2 a1 r w hr0_2 hc0_2 h
 cases k with
 | zero => exact absurd h (by simp [spec_l05Left.f])
 | succ k =>
 simp only [spec_l05Left.f] at h
 have hu81 := Try.underlying81
 have HR0_2 := Aside0.mk hr0_2
 have HC0_2 := Aside0.mk hc0_2
 clear hr0_2 hc0_2
 have HB := Aside0.mk (Below.refl w.heap.size w)
 have H : (spec_l05Left.l0 k (wrap64 (a1 - 1)) 0 a0_0 a0_1 l0_2) = some r := h
 clear h
 have H' := Aside0.mk H
 clear H
 go_enter Try.func128, Try.ntmps128
 go_wp2_with (first | ((with_reducible refine gate_dst (N := 2) rfl ?_); refine box_event ?hg (N := 2) ?hd (cs := #[.int .i64 a0_0, .int .i64 a0_1, .slice A0_2 l0_2.length c0_2]) (t := 81) ?hr ?_; (case hd => rfl); (case hg => rfl); (case hr => first | (go_simp; done) | (go_simp; rfl)); intro gb143 hg w3 hbox hb; have n0_ := Aside0.mk (below_step (by repeat (first | (with_reducible first | exact HB.out | apply below_alloc | apply pw_below_drewN | apply below_drew1) | exact HB.out)) hb); have n1_ := Aside0.mk (hbox); have n2_ := Aside0.mk ((by rw [hg]; exact (below_size (by repeat (first | (with_reducible first | exact HB.out | apply below_alloc | apply pw_below_drewN | apply below_drew1) | exact HB.out))) : w.heap.size ≤ gb143)); have n3_ := Aside0.mk ((by rw [hg]; exact (below_size (by repeat (first | (with_reducible first | exact HB.out | apply below_alloc | apply pw_below_drewN | apply below_drew1) | exact HB.out))) : w.heap.size ≤ gb143)); clear HB; have HB := n0_; have BK143 := n1_; have GW143 := n2_; have GE143 := n3_; clear n0_ n1_ n2_ n3_; clear hb hbox hg))
 go_loopg [1, 5] k (fun kq v1 v5 w' => ∃ (x1_1 : Int) (x5_1 : Int), v1 = .int .i64 x1_1 ∧ v5 = .int .i64 x5_1 ∧ Aside0 (spec_l05Left.l0 kq x1_1 x5_1 a0_0 a0_1 l0_2 = some r) ∧ Aside0 (kq ≤ k) ∧ Aside0 (w'.heap[gb143]? = some (.cells #[.int .i64 a0_0, .int .i64 a0_1, (.slice A0_2 l0_2.length c0_2)] 81 (0, 0))) ∧ Aside0 (Below w.heap.size w w'))
 case atStart => exact ⟨(wrap64 (a1 - 1)), (0), (by first | rfl | (simp; done) | (simp [*]; done)), (by first | rfl | (simp; done) | (simp [*]; done)), H', ⟨Nat.le_refl _⟩, ⟨by (with_reducible repeat (first | refine blk_drewN ?_ _ | refine blk_drew ?_ | refine blk_alloc ?_ _)); exact BK143.out⟩, ⟨by repeat (first | (with_reducible first | exact HB.out | apply below_alloc | apply pw_below_drewN | apply below_drew1 | refine below_set ?_ GE143.out) | exact HB.out)⟩⟩
 case round =>
  clear H'
  try clear c1
  try clear p2
  obtain ⟨x1_1, x5_1, rfl, rfl, HA, HK1, BK143, HB⟩ := hrel
  cases gk with
  | zero => exact absurd HA.out (by simp [spec_l05Left.l0])
  | succ k1 =>
   have H := HA.out
   clear HA
   simp only [spec_l05Left.l0] at H
   by_cases c4 : x5_1 < (l0_2.length : Int)
   ·rw [if_pos c4] at H
    have c4b0 : decide (x5_1 < (l0_2.length : Int)) = true := decide_eq_true c4
    clear c4
    by_cases c5 : x1_1 ≥ 0
    ·rw [if_pos c5] at H
     have c5b0 : decide (0 ≤ x1_1) = true := decide_eq_true c5
     clear c5
     by_cases c6 : 0 ≤ x5_1
     ·rw [if_pos c6] at H
      have c6b0 : decide (0 ≤ x5_1) = true := decide_eq_true c6
      clear c6
      replace H := Option.bind_eq_some_iff.mp H
      obtain ⟨t145, A70, H⟩ := H
      replace H : (spec_l05Left.l0 k1 t145 (wrap64 (x5_1 + 1)) a0_0 a0_1 l0_2) = some r := H
      have A7 := Aside0.mk A70
      clear A70
      have H' := Aside0.mk H
      clear H
      have hcz8_0 : wr.cell? ⟨gb143, 0, none⟩ = some (.int .i64 a0_0) := (blk_cell BK143.out 0).trans rfl
      have hcz8_1 : wr.cell? ⟨gb143, 1, none⟩ = some (.int .i64 a0_1) := (blk_cell BK143.out 1).trans rfl
      have hcz8_2 : wr.cell? ⟨gb143, 2, none⟩ = some (.slice A0_2 l0_2.length c0_2) := (blk_cell BK143.out 2).trans rfl
      have hfz8_0 := blk_frozen BK143.out 0
      have hfz8_1 := blk_frozen BK143.out 1
      have hfz8_2 := blk_frozen BK143.out 2
      have p144 : 0 ≤ (x5_1 : Int) := of_decide_eq_true (by first | (with_reducible assumption) | assumption)
      have q144 : x5_1 < (l0_2.length : Int) := of_decide_eq_true (by first | (with_reducible assumption) | assumption)
      obtain ⟨ad144, A144_2, c144_2, e144, hx144_0, hx144_1, hx144_2, hl144_2, hi144_2⟩ := at_T81 HR0_2.out x5_1 p144 q144
      cases e144
      replace hx144_0 := (HB.out.cell (World.block_lt_of_cell? w _ hx144_0)).trans hx144_0
      replace hx144_1 := (HB.out.cell (World.block_lt_of_cell? w _ hx144_1)).trans hx144_1
      replace hx144_2 := (HB.out.cell (World.block_lt_of_cell? w _ hx144_2)).trans hx144_2
      have HR144_2 := Aside0.mk hi144_2
      have HC144_2 := Aside0.mk hl144_2
      clear hi144_2 hl144_2
      replace p144 := eq_true p144
      replace q144 := eq_true q144
      go_wp2_with (first | ((with_reducible refine gate_callee (f := 128) rfl ?_); refine goesL_ (some 25) rfl rfl Try.func128 (by kernel_rfl) rfl #[.agg #[.int .i64 ((rd_T81 l0_2 x5_1).f0), .int .i64 ((rd_T81 l0_2 x5_1).f1), .slice A144_2 ((rd_T81 l0_2 x5_1).f2).length c144_2], .int .i64 x1_1] rfl (by (try simp only [List.map_toArray, List.map_cons, List.map_nil]); first | done | rfl | (simp only [List.length_drop, List.length_take]; rfl)) ?_; (with_reducible refine (ih k1 (by have := HK1.out; omega) ((rd_T81 l0_2 x5_1).f0) ((rd_T81 l0_2 x5_1).f1) _ _ ((rd_T81 l0_2 x5_1).f2) x1_1 t145 _ ?side1 ?side2 A7.out).mono ?_); (case side1 => repeat (first | exact (Kd.C_below HR144_2.out HB.out) | (with_reducible refine Kd.C_alloc ?_ _) | (with_reducible refine Kd.C_drewN ?_ _) | (with_reducible refine Kd.C_drew ?_))); (case side2 => exact HC144_2.out); rintro e w9 ⟨rfl, hb⟩; refine ⟨_, rfl, ?_⟩; have n0_ := Aside0.mk (blk_below (g := gb143) (o := .cells #[.int .i64 a0_0, .int .i64 a0_1, .slice (some ad144) l0_2.length c0_2] 81 (0, 0)) (by (with_reducible repeat (first | refine blk_drewN ?_ _ | refine blk_drew ?_ | refine blk_alloc ?_ _)); exact BK143.out) hb); have n1_ := Aside0.mk (below_step (by repeat (first | (with_reducible first | exact HB.out | apply below_alloc | apply pw_below_drewN | apply below_drew1 | refine below_set ?_ GE143.out) | exact HB.out)) hb); clear BK143; clear HB; have BK143 := n0_; have HB := n1_; clear n0_ n1_; (try clear hb); (try clear hb2); (try clear hk); (try clear hi)))
      go_roundg k1
      case measure => have := HK1.out; omega
      case rel => exact ⟨(t145), (wrap64 (x5_1 + 1)), (by first | rfl | (simp; done) | (simp [*]; done)), (by first | rfl | (simp; done) | (simp [*]; done)), H', ⟨by have := HK1.out; omega⟩, ⟨by (with_reducible repeat (first | refine blk_drewN ?_ _ | refine blk_drew ?_ | refine blk_alloc ?_ _)); exact BK143.out⟩, ⟨by repeat (first | (with_reducible first | exact HB.out | apply below_alloc | apply pw_below_drewN | apply below_drew1 | refine below_set ?_ GE143.out) | exact HB.out)⟩⟩
     ·rw [if_neg c6] at H
      exact absurd H (by simp)
    ·rw [if_neg c5] at H
     have c5b0 : decide (0 ≤ x1_1) = false := decide_eq_false c5
     clear c5
     obtain rfl := Option.some.inj H
     have hcz10_0 : wr.cell? ⟨gb143, 0, none⟩ = some (.int .i64 a0_0) := (blk_cell BK143.out 0).trans rfl
     have hcz10_1 : wr.cell? ⟨gb143, 1, none⟩ = some (.int .i64 a0_1) := (blk_cell BK143.out 1).trans rfl
     have hcz10_2 : wr.cell? ⟨gb143, 2, none⟩ = some (.slice A0_2 l0_2.length c0_2) := (blk_cell BK143.out 2).trans rfl
     have hfz10_0 := blk_frozen BK143.out 0
     have hfz10_1 := blk_frozen BK143.out 1
     have hfz10_2 := blk_frozen BK143.out 2
     go_wp2
     go_ret
     exact ⟨by first | rfl | (simp [errW_none, errW_some] <;> rfl) | (simp [*, errW_none, errW_some] <;> rfl), by repeat (first | (with_reducible first | exact HB.out | apply below_alloc | apply pw_below_drewN | apply below_drew1 | refine below_set ?_ GE143.out) | exact HB.out)⟩
   ·rw [if_neg c4] at H
    have c4b0 : decide (x5_1 < (l0_2.length : Int)) = false := decide_eq_false c4
    clear c4
    obtain rfl := Option.some.inj H
    have hcz11_0 : wr.cell? ⟨gb143, 0, none⟩ = some (.int .i64 a0_0) := (blk_cell BK143.out 0).trans rfl
    have hcz11_1 : wr.cell? ⟨gb143, 1, none⟩ = some (.int .i64 a0_1) := (blk_cell BK143.out 1).trans rfl
    have hcz11_2 : wr.cell? ⟨gb143, 2, none⟩ = some (.slice A0_2 l0_2.length c0_2) := (blk_cell BK143.out 2).trans rfl
    have hfz11_0 := blk_frozen BK143.out 0
    have hfz11_1 := blk_frozen BK143.out 1
    have hfz11_2 := blk_frozen BK143.out 2
    go_wp2
    go_ret
    exact ⟨by first | rfl | (simp [errW_none, errW_some] <;> rfl) | (simp [*, errW_none, errW_some] <;> rfl), by repeat (first | (with_reducible first | exact HB.out | apply below_alloc | apply pw_below_drewN | apply below_drew1 | refine below_set ?_ GE143.out) | exact HB.out)⟩
mutual
def spec_l05Right.j0 : Nat → Int → Bool → Int → Int → List (S81) → Option (Bool)
 | 0, _, _, _, _, _ => none
 | k + 1, x1, x40, x147000, x147001, x147002 => if x40 = true then (if x147001 = 0 then (if (x147002.length : Int) = 2 then (if 0 < (x147002.length : Int) then ((spec_l05Right.f k ((rd_T81 x147002 0).f0) ((rd_T81 x147002 0).f1) ((rd_T81 x147002 0).f2) x1).bind fun t149 => (if t149 = true then (if 1 < (x147002.length : Int) then ((spec_l05Right.f k ((rd_T81 x147002 1).f0) ((rd_T81 x147002 1).f1) ((rd_T81 x147002 1).f2) x1).bind fun t151 => (some t151)) else (none)) else (some false))) else (none)) else (some false)) else (some false)) else (some false)
def spec_l05Right.f : Nat → Int → Int → List (S81) → Int → Option (Bool)
 | 0, _, _, _, _ => none
 | k + 1, a0_0, a0_1, l0_2, a1 => if a0_0 = 1 then (if 0 ≤ (IntKind.u64.wrap (a1)) then ((spec_l01In.f a0_1 0 (wrap64 ((shl .i64 1 (IntKind.u64.wrap (a1))) - 1))).bind fun t147 => (if t147 = true then (some ((l0_2.length : Int) == 0)) else (some false))) else (none)) else (if a0_0 = 2 then (if a0_1 ≥ 0 then (if a1 = 0 then (none) else (if a0_1 < (wrap64 ((12 : Int) / a1)) then (some ((l0_2.length : Int) == 0)) else (some false))) else (some false)) else (if a0_0 = 3 then (spec_l05Right.j0 k a1 (a0_0 == 3) a0_0 a0_1 l0_2) else (if a0_0 = 4 then (spec_l05Right.j0 k a1 (a0_0 == 4) a0_0 a0_1 l0_2) else (spec_l05Right.j0 k a1 (a0_0 == 5) a0_0 a0_1 l0_2))))
end
set_option maxHeartbeats 8000000 in
set_option maxRecDepth 100000 in
theorem spec_l05Right.calls (k : Nat) : ∀ (a0_0 : Int) (a0_1 : Int) (A0_2 : Option Addr) (c0_2 : Nat) (l0_2 : List (S81)) (a1 : Int) (r : Bool) (w : World) (hr0_2 : Kd.C k81 w A0_2 l0_2.length l0_2) (hc0_2 : l0_2.length ≤ c0_2) (h : spec_l05Right.f k a0_0 a0_1 l0_2 a1 = some r),
  Calls Try.prog 129 #[.agg #[.int .i64 a0_0, .int .i64 a0_1, .slice A0_2 l0_2.length c0_2], .int .i64 a1] w fun e w' => e = .returned (.bool r) ∧ Below w.heap.size w w' := by
 induction k using Nat.strongRecOn with
 | _ k ih =>
 intro a0_0 a0_1 A0_2 c0_2 l0_2 a1 r w hr0_2 hc0_2 h
 cases k with
 | zero => exact absurd h (by simp [spec_l05Right.f])
 | succ k =>
 simp only [spec_l05Right.f] at h
 have hu81 := Try.underlying81
 have HR0_2 := Aside0.mk hr0_2
 have HC0_2 := Aside0.mk hc0_2
 clear hr0_2 hc0_2
 have HB := Aside0.mk (Below.refl w.heap.size w)
 have H : (if a0_0 = 1 then (if 0 ≤ (IntKind.u64.wrap (a1)) then ((spec_l01In.f a0_1 0 (wrap64 ((shl .i64 1 (IntKind.u64.wrap (a1))) - 1))).bind fun t147 => (if t147 = true then (some ((l0_2.length : Int) == 0)) else (some false))) else (none)) else (if a0_0 = 2 then (if a0_1 ≥ 0 then (if a1 = 0 then (none) else (if a0_1 < (wrap64 ((12 : Int) / a1)) then (some ((l0_2.length : Int) == 0)) else (some false))) else (some false)) else (if a0_0 = 3 then (spec_l05Right.j0 k a1 (a0_0 == 3) a0_0 a0_1 l0_2) else (if a0_0 = 4 then (spec_l05Right.j0 k a1 (a0_0 == 4) a0_0 a0_1 l0_2) else (spec_l05Right.j0 k a1 (a0_0 == 5) a0_0 a0_1 l0_2))))) = some r := h
 clear h
 by_cases c3 : a0_0 = 1
 ·rw [if_pos c3] at H
  have c3b0 : (a0_0 == 1) = true := beq_iff_eq.mpr c3
  have c3b1 : (a0_0 != 1) = false := bne_eq_false_iff_eq.mpr c3
  clear c3
  obtain ⟨ji4, hji4⟩ : ∃ j_ : Int, (IntKind.u64.wrap (a1)) = j_ := ⟨_, rfl⟩
  replace H : (if 0 ≤ (ji4) then ((spec_l01In.f a0_1 0 (wrap64 ((shl .i64 1 (ji4)) - 1))).bind fun t147 => (if t147 = true then (some ((l0_2.length : Int) == 0)) else (some false))) else (none)) = some r := by first | (rw [hji4] at H; exact H) | (simp only [hji4] at H ⊢; exact H)
  by_cases c5 : 0 ≤ (ji4)
  ·rw [if_pos c5] at H
   have c5b0 := eq_true c5
   have c5b1 : decide (0 ≤ (ji4)) = true := decide_eq_true c5
   clear c5
   obtain ⟨ji6, hji6⟩ : ∃ j_ : Int, (shl .i64 1 (ji4)) = j_ := ⟨_, rfl⟩
   replace H : ((spec_l01In.f a0_1 0 (wrap64 ((ji6) - 1))).bind fun t147 => (if t147 = true then (some ((l0_2.length : Int) == 0)) else (some false))) = some r := by first | (rw [hji6] at H; exact H) | (simp only [hji6] at H ⊢; exact H)
   have hji6_ : (IntKind.i64.wrap (1 * 2 ^ min (ji4).toNat 64)) = ji6 := hji6
   have hji6z : (ji4) ≤ 64 → (IntKind.i64.wrap (1 * 2 ^ (ji4).toNat)) = ji6 := shl_small hji6
   have hji6u : (IntKind.i64.wrap (2 ^ min (ji4).toNat 64)) = ji6 := by have h_ := hji6_; rw [Int.one_mul] at h_; exact h_
   have hji6v : (ji4) ≤ 64 → (IntKind.i64.wrap (2 ^ (ji4).toNat)) = ji6 := fun hle_ => by have h_ := hji6z hle_; rw [Int.one_mul] at h_; exact h_
   have hji6y : (wrap64 (1 * 2 ^ min (ji4).toNat 64)) = ji6 := (i64_w _).symm.trans hji6_
   have hji6x : (ji4) ≤ 64 → (wrap64 (1 * 2 ^ (ji4).toNat)) = ji6 := fun h_ => (i64_w _).symm.trans (hji6z h_)
   replace H := Option.bind_eq_some_iff.mp H
   obtain ⟨t147, A70, H⟩ := H
   replace H : (if t147 = true then (some ((l0_2.length : Int) == 0)) else (some false)) = some r := H
   have A7 := Aside0.mk A70
   clear A70
   by_cases c8 : t147 = true
   ·subst c8
    have H1 : (some ((l0_2.length : Int) == 0)) = some r := by rw [if_pos rfl] at H; exact H
    clear H
    have H := H1
    clear H1
    obtain rfl := Option.some.inj H
    go_enter Try.func129, Try.ntmps129
    go_wp2_with (first | ((with_reducible refine gate_dst (N := 2) rfl ?_); (try (refine gate_guard (by rfl) ?_; dsimp only)); refine box_event ?hg (N := 2) ?hd (cs := #[.int .i64 a0_0, .int .i64 a0_1, .slice A0_2 l0_2.length c0_2]) (t := 81) ?hr ?_; (case hd => rfl); (case hg => rfl); (case hr => first | (go_simp; done) | (go_simp; rfl)); intro gb146 hg w9 hbox hb; have n0_ := Aside0.mk (below_step (by repeat (first | (with_reducible first | exact HB.out | apply below_alloc | apply pw_below_drewN | apply below_drew1) | exact HB.out)) hb); have n1_ := Aside0.mk (hbox); have n2_ := Aside0.mk ((by rw [hg]; exact (below_size (by repeat (first | (with_reducible first | exact HB.out | apply below_alloc | apply pw_below_drewN | apply below_drew1) | exact HB.out))) : w.heap.size ≤ gb146)); have n3_ := Aside0.mk ((by rw [hg]; exact (below_size (by repeat (first | (with_reducible first | exact HB.out | apply below_alloc | apply pw_below_drewN | apply below_drew1) | exact HB.out))) : w.heap.size ≤ gb146)); clear HB; have HB := n0_; have BK146 := n1_; have GW146 := n2_; have GE146 := n3_; clear n0_ n1_ n2_ n3_; clear hb hbox hg; have hcz10_0 : w9.cell? ⟨gb146, 0, none⟩ = some (.int .i64 a0_0) := (blk_cell BK146.out 0).trans rfl; have hcz10_1 : w9.cell? ⟨gb146, 1, none⟩ = some (.int .i64 a0_1) := (blk_cell BK146.out 1).trans rfl; have hcz10_2 : w9.cell? ⟨gb146, 2, none⟩ = some (.slice A0_2 l0_2.length c0_2) := (blk_cell BK146.out 2).trans rfl; have hfz10_0 := blk_frozen BK146.out 0; have hfz10_1 := blk_frozen BK146.out 1; have hfz10_2 := blk_frozen BK146.out 2) | (go_at_call 76; (with_reducible refine (spec_l01In.calls a0_1 0 (wrap64 ((ji6) - 1)) true _ A7.out).mono ?_); rintro e w' ⟨rfl, ⟨nd, rfl⟩⟩; (try first | exact ⟨rfl, _, World.drewN_drewN _ _ _⟩ | exact ⟨rfl, _, Eq.trans (World.drewN_drewN _ _ _) (congrArg (World.drewN _) (Nat.add_assoc _ _ _))⟩)))
    repeat (go_quiet (first | ((with_reducible refine gate_dst (N := 2) rfl ?_); (try (refine gate_guard (by rfl) ?_; dsimp only)); refine box_event ?hg (N := 2) ?hd (cs := #[.int .i64 a0_0, .int .i64 a0_1, .slice A0_2 l0_2.length c0_2]) (t := 81) ?hr ?_; (case hd => rfl); (case hg => rfl); (case hr => first | (go_simp; done) | (go_simp; rfl)); intro gb146 hg w9 hbox hb; have n0_ := Aside0.mk (below_step (by repeat (first | (with_reducible first | exact HB.out | apply below_alloc | apply pw_below_drewN | apply below_drew1) | exact HB.out)) hb); have n1_ := Aside0.mk (hbox); have n2_ := Aside0.mk ((by rw [hg]; exact (below_size (by repeat (first | (with_reducible first | exact HB.out | apply below_alloc | apply pw_below_drewN | apply below_drew1) | exact HB.out))) : w.heap.size ≤ gb146)); have n3_ := Aside0.mk ((by rw [hg]; exact (below_size (by repeat (first | (with_reducible first | exact HB.out | apply below_alloc | apply pw_below_drewN | apply below_drew1) | exact HB.out))) : w.heap.size ≤ gb146)); clear HB; have HB := n0_; have BK146 := n1_; have GW146 := n2_; have GE146 := n3_; clear n0_ n1_ n2_ n3_; clear hb hbox hg; have hcz10_0 : w9.cell? ⟨gb146, 0, none⟩ = some (.int .i64 a0_0) := (blk_cell BK146.out 0).trans rfl; have hcz10_1 : w9.cell? ⟨gb146, 1, none⟩ = some (.int .i64 a0_1) := (blk_cell BK146.out 1).trans rfl; have hcz10_2 : w9.cell? ⟨gb146, 2, none⟩ = some (.slice A0_2 l0_2.length c0_2) := (blk_cell BK146.out 2).trans rfl; have hfz10_0 := blk_frozen BK146.out 0; have hfz10_1 := blk_frozen BK146.out 1; have hfz10_2 := blk_frozen BK146.out 2) | (go_at_call 76; (with_reducible refine (spec_l01In.calls a0_1 0 (wrap64 ((ji6) - 1)) true _ A7.out).mono ?_); rintro e w' ⟨rfl, ⟨nd, rfl⟩⟩; (try first | exact ⟨rfl, _, World.drewN_drewN _ _ _⟩ | exact ⟨rfl, _, Eq.trans (World.drewN_drewN _ _ _) (congrArg (World.drewN _) (Nat.add_assoc _ _ _))⟩))); try go_wp2_with (first | ((with_reducible refine gate_dst (N := 2) rfl ?_); (try (refine gate_guard (by rfl) ?_; dsimp only)); refine box_event ?hg (N := 2) ?hd (cs := #[.int .i64 a0_0, .int .i64 a0_1, .slice A0_2 l0_2.length c0_2]) (t := 81) ?hr ?_; (case hd => rfl); (case hg => rfl); (case hr => first | (go_simp; done) | (go_simp; rfl)); intro gb146 hg w9 hbox hb; have n0_ := Aside0.mk (below_step (by repeat (first | (with_reducible first | exact HB.out | apply below_alloc | apply pw_below_drewN | apply below_drew1) | exact HB.out)) hb); have n1_ := Aside0.mk (hbox); have n2_ := Aside0.mk ((by rw [hg]; exact (below_size (by repeat (first | (with_reducible first | exact HB.out | apply below_alloc | apply pw_below_drewN | apply below_drew1) | exact HB.out))) : w.heap.size ≤ gb146)); have n3_ := Aside0.mk ((by rw [hg]; exact (below_size (by repeat (first | (with_reducible first | exact HB.out | apply below_alloc | apply pw_below_drewN | apply below_drew1) | exact HB.out))) : w.heap.size ≤ gb146)); clear HB; have HB := n0_; have BK146 := n1_; have GW146 := n2_; have GE146 := n3_; clear n0_ n1_ n2_ n3_; clear hb hbox hg; have hcz10_0 : w9.cell? ⟨gb146, 0, none⟩ = some (.int .i64 a0_0) := (blk_cell BK146.out 0).trans rfl; have hcz10_1 : w9.cell? ⟨gb146, 1, none⟩ = some (.int .i64 a0_1) := (blk_cell BK146.out 1).trans rfl; have hcz10_2 : w9.cell? ⟨gb146, 2, none⟩ = some (.slice A0_2 l0_2.length c0_2) := (blk_cell BK146.out 2).trans rfl; have hfz10_0 := blk_frozen BK146.out 0; have hfz10_1 := blk_frozen BK146.out 1; have hfz10_2 := blk_frozen BK146.out 2) | (go_at_call 76; (with_reducible refine (spec_l01In.calls a0_1 0 (wrap64 ((ji6) - 1)) true _ A7.out).mono ?_); rintro e w' ⟨rfl, ⟨nd, rfl⟩⟩; (try first | exact ⟨rfl, _, World.drewN_drewN _ _ _⟩ | exact ⟨rfl, _, Eq.trans (World.drewN_drewN _ _ _) (congrArg (World.drewN _) (Nat.add_assoc _ _ _))⟩))))
    go_ret
    exact ⟨by first | rfl | (simp [errW_none, errW_some] <;> rfl) | (simp only [← hji4, ← hji6]; first | rfl | (simp [errW_none, errW_some] <;> rfl)) | (simp [*, errW_none, errW_some] <;> rfl), by repeat (first | (with_reducible first | exact HB.out | apply below_alloc | apply pw_below_drewN | apply below_drew1 | refine below_set ?_ GE146.out) | exact HB.out)⟩
   ·replace c8 := Bool.eq_false_iff.mpr c8
    subst c8
    have H1 : (some false) = some r := by rw [if_neg (show ¬ (false = true) by decide)] at H; exact H
    clear H
    have H := H1
    clear H1
    obtain rfl := Option.some.inj H
    go_enter Try.func129, Try.ntmps129
    go_wp2_with (first | ((with_reducible refine gate_dst (N := 2) rfl ?_); (try (refine gate_guard (by rfl) ?_; dsimp only)); refine box_event ?hg (N := 2) ?hd (cs := #[.int .i64 a0_0, .int .i64 a0_1, .slice A0_2 l0_2.length c0_2]) (t := 81) ?hr ?_; (case hd => rfl); (case hg => rfl); (case hr => first | (go_simp; done) | (go_simp; rfl)); intro gb146 hg w11 hbox hb; have n0_ := Aside0.mk (below_step (by repeat (first | (with_reducible first | exact HB.out | apply below_alloc | apply pw_below_drewN | apply below_drew1) | exact HB.out)) hb); have n1_ := Aside0.mk (hbox); have n2_ := Aside0.mk ((by rw [hg]; exact (below_size (by repeat (first | (with_reducible first | exact HB.out | apply below_alloc | apply pw_below_drewN | apply below_drew1) | exact HB.out))) : w.heap.size ≤ gb146)); have n3_ := Aside0.mk ((by rw [hg]; exact (below_size (by repeat (first | (with_reducible first | exact HB.out | apply below_alloc | apply pw_below_drewN | apply below_drew1) | exact HB.out))) : w.heap.size ≤ gb146)); clear HB; have HB := n0_; have BK146 := n1_; have GW146 := n2_; have GE146 := n3_; clear n0_ n1_ n2_ n3_; clear hb hbox hg; have hcz12_0 : w11.cell? ⟨gb146, 0, none⟩ = some (.int .i64 a0_0) := (blk_cell BK146.out 0).trans rfl; have hcz12_1 : w11.cell? ⟨gb146, 1, none⟩ = some (.int .i64 a0_1) := (blk_cell BK146.out 1).trans rfl; have hcz12_2 : w11.cell? ⟨gb146, 2, none⟩ = some (.slice A0_2 l0_2.length c0_2) := (blk_cell BK146.out 2).trans rfl; have hfz12_0 := blk_frozen BK146.out 0; have hfz12_1 := blk_frozen BK146.out 1; have hfz12_2 := blk_frozen BK146.out 2) | (go_at_call 76; (with_reducible refine (spec_l01In.calls a0_1 0 (wrap64 ((ji6) - 1)) false _ A7.out).mono ?_); rintro e w' ⟨rfl, ⟨nd, rfl⟩⟩; (try first | exact ⟨rfl, _, World.drewN_drewN _ _ _⟩ | exact ⟨rfl, _, Eq.trans (World.drewN_drewN _ _ _) (congrArg (World.drewN _) (Nat.add_assoc _ _ _))⟩)))
    repeat (go_quiet (first | ((with_reducible refine gate_dst (N := 2) rfl ?_); (try (refine gate_guard (by rfl) ?_; dsimp only)); refine box_event ?hg (N := 2) ?hd (cs := #[.int .i64 a0_0, .int .i64 a0_1, .slice A0_2 l0_2.length c0_2]) (t := 81) ?hr ?_; (case hd => rfl); (case hg => rfl); (case hr => first | (go_simp; done) | (go_simp; rfl)); intro gb146 hg w11 hbox hb; have n0_ := Aside0.mk (below_step (by repeat (first | (with_reducible first | exact HB.out | apply below_alloc | apply pw_below_drewN | apply below_drew1) | exact HB.out)) hb); have n1_ := Aside0.mk (hbox); have n2_ := Aside0.mk ((by rw [hg]; exact (below_size (by repeat (first | (with_reducible first | exact HB.out | apply below_alloc | apply pw_below_drewN | apply below_drew1) | exact HB.out))) : w.heap.size ≤ gb146)); have n3_ := Aside0.mk ((by rw [hg]; exact (below_size (by repeat (first | (with_reducible first | exact HB.out | apply below_alloc | apply pw_below_drewN | apply below_drew1) | exact HB.out))) : w.heap.size ≤ gb146)); clear HB; have HB := n0_; have BK146 := n1_; have GW146 := n2_; have GE146 := n3_; clear n0_ n1_ n2_ n3_; clear hb hbox hg; have hcz12_0 : w11.cell? ⟨gb146, 0, none⟩ = some (.int .i64 a0_0) := (blk_cell BK146.out 0).trans rfl; have hcz12_1 : w11.cell? ⟨gb146, 1, none⟩ = some (.int .i64 a0_1) := (blk_cell BK146.out 1).trans rfl; have hcz12_2 : w11.cell? ⟨gb146, 2, none⟩ = some (.slice A0_2 l0_2.length c0_2) := (blk_cell BK146.out 2).trans rfl; have hfz12_0 := blk_frozen BK146.out 0; have hfz12_1 := blk_frozen BK146.out 1; have hfz12_2 := blk_frozen BK146.out 2) | (go_at_call 76; (with_reducible refine (spec_l01In.calls a0_1 0 (wrap64 ((ji6) - 1)) false _ A7.out).mono ?_); rintro e w' ⟨rfl, ⟨nd, rfl⟩⟩; (try first | exact ⟨rfl, _, World.drewN_drewN _ _ _⟩ | exact ⟨rfl, _, Eq.trans (World.drewN_drewN _ _ _) (congrArg (World.drewN _) (Nat.add_assoc _ _ _))⟩))); try go_wp2_with (first | ((with_reducible refine gate_dst (N := 2) rfl ?_); (try (refine gate_guard (by rfl) ?_; dsimp only)); refine box_event ?hg (N := 2) ?hd (cs := #[.int .i64 a0_0, .int .i64 a0_1, .slice A0_2 l0_2.length c0_2]) (t := 81) ?hr ?_; (case hd => rfl); (case hg => rfl); (case hr => first | (go_simp; done) | (go_simp; rfl)); intro gb146 hg w11 hbox hb; have n0_ := Aside0.mk (below_step (by repeat (first | (with_reducible first | exact HB.out | apply below_alloc | apply pw_below_drewN | apply below_drew1) | exact HB.out)) hb); have n1_ := Aside0.mk (hbox); have n2_ := Aside0.mk ((by rw [hg]; exact (below_size (by repeat (first | (with_reducible first | exact HB.out | apply below_alloc | apply pw_below_drewN | apply below_drew1) | exact HB.out))) : w.heap.size ≤ gb146)); have n3_ := Aside0.mk ((by rw [hg]; exact (below_size (by repeat (first | (with_reducible first | exact HB.out | apply below_alloc | apply pw_below_drewN | apply below_drew1) | exact HB.out))) : w.heap.size ≤ gb146)); clear HB; have HB := n0_; have BK146 := n1_; have GW146 := n2_; have GE146 := n3_; clear n0_ n1_ n2_ n3_; clear hb hbox hg; have hcz12_0 : w11.cell? ⟨gb146, 0, none⟩ = some (.int .i64 a0_0) := (blk_cell BK146.out 0).trans rfl; have hcz12_1 : w11.cell? ⟨gb146, 1, none⟩ = some (.int .i64 a0_1) := (blk_cell BK146.out 1).trans rfl; have hcz12_2 : w11.cell? ⟨gb146, 2, none⟩ = some (.slice A0_2 l0_2.length c0_2) := (blk_cell BK146.out 2).trans rfl; have hfz12_0 := blk_frozen BK146.out 0; have hfz12_1 := blk_frozen BK146.out 1; have hfz12_2 := blk_frozen BK146.out 2) | (go_at_call 76; (with_reducible refine (spec_l01In.calls a0_1 0 (wrap64 ((ji6) - 1)) false _ A7.out).mono ?_); rintro e w' ⟨rfl, ⟨nd, rfl⟩⟩; (try first | exact ⟨rfl, _, World.drewN_drewN _ _ _⟩ | exact ⟨rfl, _, Eq.trans (World.drewN_drewN _ _ _) (congrArg (World.drewN _) (Nat.add_assoc _ _ _))⟩))))
    go_ret
    exact ⟨by first | rfl | (simp [errW_none, errW_some] <;> rfl) | (simp only [← hji4, ← hji6]; first | rfl | (simp [errW_none, errW_some] <;> rfl)) | (simp [*, errW_none, errW_some] <;> rfl), by repeat (first | (with_reducible first | exact HB.out | apply below_alloc | apply pw_below_drewN | apply below_drew1 | refine below_set ?_ GE146.out) | exact HB.out)⟩
  ·rw [if_neg c5] at H
   exact absurd H (by simp)
 ·rw [if_neg c3] at H
  have c3b0 : (a0_0 == 1) = false := beq_eq_false_iff_ne.mpr c3
  have c3b1 : (a0_0 != 1) = true := bne_iff_ne.mpr c3
  by_cases c13 : a0_0 = 2
  ·rw [if_pos c13] at H
   have c13b0 : (a0_0 == 2) = true := beq_iff_eq.mpr c13
   have c13b1 : (a0_0 != 2) = false := bne_eq_false_iff_eq.mpr c13
   clear c13
   by_cases c14 : a0_1 ≥ 0
   ·rw [if_pos c14] at H
    have c14b0 : decide (0 ≤ a0_1) = true := decide_eq_true c14
    clear c14
    by_cases c15 : a1 = 0
    ·rw [if_pos c15] at H
     exact absurd H (by simp)
    ·rw [if_neg c15] at H
     have c15b0 : (a1 == 0) = false := beq_eq_false_iff_ne.mpr c15
     have c15b1 : (a1 != 0) = true := bne_iff_ne.mpr c15
     by_cases c16 : a0_1 < (wrap64 ((12 : Int) / a1))
     ·rw [if_pos c16] at H
      have c16b0 : decide (a0_1 < (wrap64 ((12 : Int) / a1))) = true := decide_eq_true c16
      have eq16_ : IntKind.i64.wrap (Int.tdiv 12 a1) = wrap64 ((12 : Int) / a1) := by rw [i64_w, Int.tdiv_eq_ediv_of_nonneg (by decide)]
      clear c16
      obtain rfl := Option.some.inj H
      go_enter Try.func129, Try.ntmps129
      go_wp2_with (first | ((with_reducible refine gate_dst (N := 2) rfl ?_); (try (refine gate_guard (by rfl) ?_; dsimp only)); refine box_event ?hg (N := 2) ?hd (cs := #[.int .i64 a0_0, .int .i64 a0_1, .slice A0_2 l0_2.length c0_2]) (t := 81) ?hr ?_; (case hd => rfl); (case hg => rfl); (case hr => first | (go_simp; done) | (go_simp; rfl)); intro gb146 hg w17 hbox hb; have n0_ := Aside0.mk (below_step (by repeat (first | (with_reducible first | exact HB.out | apply below_alloc | apply pw_below_drewN | apply below_drew1) | exact HB.out)) hb); have n1_ := Aside0.mk (hbox); have n2_ := Aside0.mk ((by rw [hg]; exact (below_size (by repeat (first | (with_reducible first | exact HB.out | apply below_alloc | apply pw_below_drewN | apply below_drew1) | exact HB.out))) : w.heap.size ≤ gb146)); have n3_ := Aside0.mk ((by rw [hg]; exact (below_size (by repeat (first | (with_reducible first | exact HB.out | apply below_alloc | apply pw_below_drewN | apply below_drew1) | exact HB.out))) : w.heap.size ≤ gb146)); clear HB; have HB := n0_; have BK146 := n1_; have GW146 := n2_; have GE146 := n3_; clear n0_ n1_ n2_ n3_; clear hb hbox hg; have hcz18_0 : w17.cell? ⟨gb146, 0, none⟩ = some (.int .i64 a0_0) := (blk_cell BK146.out 0).trans rfl; have hcz18_1 : w17.cell? ⟨gb146, 1, none⟩ = some (.int .i64 a0_1) := (blk_cell BK146.out 1).trans rfl; have hcz18_2 : w17.cell? ⟨gb146, 2, none⟩ = some (.slice A0_2 l0_2.length c0_2) := (blk_cell BK146.out 2).trans rfl; have hfz18_0 := blk_frozen BK146.out 0; have hfz18_1 := blk_frozen BK146.out 1; have hfz18_2 := blk_frozen BK146.out 2))
      repeat (go_quiet (first | ((with_reducible refine gate_dst (N := 2) rfl ?_); (try (refine gate_guard (by rfl) ?_; dsimp only)); refine box_event ?hg (N := 2) ?hd (cs := #[.int .i64 a0_0, .int .i64 a0_1, .slice A0_2 l0_2.length c0_2]) (t := 81) ?hr ?_; (case hd => rfl); (case hg => rfl); (case hr => first | (go_simp; done) | (go_simp; rfl)); intro gb146 hg w17 hbox hb; have n0_ := Aside0.mk (below_step (by repeat (first | (with_reducible first | exact HB.out | apply below_alloc | apply pw_below_drewN | apply below_drew1) | exact HB.out)) hb); have n1_ := Aside0.mk (hbox); have n2_ := Aside0.mk ((by rw [hg]; exact (below_size (by repeat (first | (with_reducible first | exact HB.out | apply below_alloc | apply pw_below_drewN | apply below_drew1) | exact HB.out))) : w.heap.size ≤ gb146)); have n3_ := Aside0.mk ((by rw [hg]; exact (below_size (by repeat (first | (with_reducible first | exact HB.out | apply below_alloc | apply pw_below_drewN | apply below_drew1) | exact HB.out))) : w.heap.size ≤ gb146)); clear HB; have HB := n0_; have BK146 := n1_; have GW146 := n2_; have GE146 := n3_; clear n0_ n1_ n2_ n3_; clear hb hbox hg; have hcz18_0 : w17.cell? ⟨gb146, 0, none⟩ = some (.int .i64 a0_0) := (blk_cell BK146.out 0).trans rfl; have hcz18_1 : w17.cell? ⟨gb146, 1, none⟩ = some (.int .i64 a0_1) := (blk_cell BK146.out 1).trans rfl; have hcz18_2 : w17.cell? ⟨gb146, 2, none⟩ = some (.slice A0_2 l0_2.length c0_2) := (blk_cell BK146.out 2).trans rfl; have hfz18_0 := blk_frozen BK146.out 0; have hfz18_1 := blk_frozen BK146.out 1; have hfz18_2 := blk_frozen BK146.out 2)); try go_wp2_with (first | ((with_reducible refine gate_dst (N := 2) rfl ?_); (try (refine gate_guard (by rfl) ?_; dsimp only)); refine box_event ?hg (N := 2) ?hd (cs := #[.int .i64 a0_0, .int .i64 a0_1, .slice A0_2 l0_2.length c0_2]) (t := 81) ?hr ?_; (case hd => rfl); (case hg => rfl); (case hr => first | (go_simp; done) | (go_simp; rfl)); intro gb146 hg w17 hbox hb; have n0_ := Aside0.mk (below_step (by repeat (first | (with_reducible first | exact HB.out | apply below_alloc | apply pw_below_drewN | apply below_drew1) | exact HB.out)) hb); have n1_ := Aside0.mk (hbox); have n2_ := Aside0.mk ((by rw [hg]; exact (below_size (by repeat (first | (with_reducible first | exact HB.out | apply below_alloc | apply pw_below_drewN | apply below_drew1) | exact HB.out))) : w.heap.size ≤ gb146)); have n3_ := Aside0.mk ((by rw [hg]; exact (below_size (by repeat (first | (with_reducible first | exact HB.out | apply below_alloc | apply pw_below_drewN | apply below_drew1) | exact HB.out))) : w.heap.size ≤ gb146)); clear HB; have HB := n0_; have BK146 := n1_; have GW146 := n2_; have GE146 := n3_; clear n0_ n1_ n2_ n3_; clear hb hbox hg; have hcz18_0 : w17.cell? ⟨gb146, 0, none⟩ = some (.int .i64 a0_0) := (blk_cell BK146.out 0).trans rfl; have hcz18_1 : w17.cell? ⟨gb146, 1, none⟩ = some (.int .i64 a0_1) := (blk_cell BK146.out 1).trans rfl; have hcz18_2 : w17.cell? ⟨gb146, 2, none⟩ = some (.slice A0_2 l0_2.length c0_2) := (blk_cell BK146.out 2).trans rfl; have hfz18_0 := blk_frozen BK146.out 0; have hfz18_1 := blk_frozen BK146.out 1; have hfz18_2 := blk_frozen BK146.out 2)))
      go_ret
      exact ⟨by first | rfl | (simp [errW_none, errW_some] <;> rfl) | (simp [*, errW_none, errW_some] <;> rfl), by repeat (first | (with_reducible first | exact HB.out | apply below_alloc | apply pw_below_drewN | apply below_drew1 | refine below_set ?_ GE146.out) | exact HB.out)⟩
     ·rw [if_neg c16] at H
      have c16b0 : decide (a0_1 < (wrap64 ((12 : Int) / a1))) = false := decide_eq_false c16
      have eq16_ : IntKind.i64.wrap (Int.tdiv 12 a1) = wrap64 ((12 : Int) / a1) := by rw [i64_w, Int.tdiv_eq_ediv_of_nonneg (by decide)]
      clear c16
      obtain rfl := Option.some.inj H
      go_enter Try.func129, Try.ntmps129
      go_wp2_with (first | ((with_reducible refine gate_dst (N := 2) rfl ?_); (try (refine gate_guard (by rfl) ?_; dsimp only)); refine box_event ?hg (N := 2) ?hd (cs := #[.int .i64 a0_0, .int .i64 a0_1, .slice A0_2 l0_2.length c0_2]) (t := 81) ?hr ?_; (case hd => rfl); (case hg => rfl); (case hr => first | (go_simp; done) | (go_simp; rfl)); intro gb146 hg w19 hbox hb; have n0_ := Aside0.mk (below_step (by repeat (first | (with_reducible first | exact HB.out | apply below_alloc | apply pw_below_drewN | apply below_drew1) | exact HB.out)) hb); have n1_ := Aside0.mk (hbox); have n2_ := Aside0.mk ((by rw [hg]; exact (below_size (by repeat (first | (with_reducible first | exact HB.out | apply below_alloc | apply pw_below_drewN | apply below_drew1) | exact HB.out))) : w.heap.size ≤ gb146)); have n3_ := Aside0.mk ((by rw [hg]; exact (below_size (by repeat (first | (with_reducible first | exact HB.out | apply below_alloc | apply pw_below_drewN | apply below_drew1) | exact HB.out))) : w.heap.size ≤ gb146)); clear HB; have HB := n0_; have BK146 := n1_; have GW146 := n2_; have GE146 := n3_; clear n0_ n1_ n2_ n3_; clear hb hbox hg; have hcz20_0 : w19.cell? ⟨gb146, 0, none⟩ = some (.int .i64 a0_0) := (blk_cell BK146.out 0).trans rfl; have hcz20_1 : w19.cell? ⟨gb146, 1, none⟩ = some (.int .i64 a0_1) := (blk_cell BK146.out 1).trans rfl; have hcz20_2 : w19.cell? ⟨gb146, 2, none⟩ = some (.slice A0_2 l0_2.length c0_2) := (blk_cell BK146.out 2).trans rfl; have hfz20_0 := blk_frozen BK146.out 0; have hfz20_1 := blk_frozen BK146.out 1; have hfz20_2 := blk_frozen BK146.out 2))
      repeat (go_quiet (first | ((with_reducible refine gate_dst (N := 2) rfl ?_); (try (refine gate_guard (by rfl) ?_; dsimp only)); refine box_event ?hg (N := 2) ?hd (cs := #[.int .i64 a0_0, .int .i64 a0_1, .slice A0_2 l0_2.length c0_2]) (t := 81) ?hr ?_; (case hd => rfl); (case hg => rfl); (case hr => first | (go_simp; done) | (go_simp; rfl)); intro gb146 hg w19 hbox hb; have n0_ := Aside0.mk (below_step (by repeat (first | (with_reducible first | exact HB.out | apply below_alloc | apply pw_below_drewN | apply below_drew1) | exact HB.out)) hb); have n1_ := Aside0.mk (hbox); have n2_ := Aside0.mk ((by rw [hg]; exact (below_size (by repeat (first | (with_reducible first | exact HB.out | apply below_alloc | apply pw_below_drewN | apply below_drew1) | exact HB.out))) : w.heap.size ≤ gb146)); have n3_ := Aside0.mk ((by rw [hg]; exact (below_size (by repeat (first | (with_reducible first | exact HB.out | apply below_alloc | apply pw_below_drewN | apply below_drew1) | exact HB.out))) : w.heap.size ≤ gb146)); clear HB; have HB := n0_; have BK146 := n1_; have GW146 := n2_; have GE146 := n3_; clear n0_ n1_ n2_ n3_; clear hb hbox hg; have hcz20_0 : w19.cell? ⟨gb146, 0, none⟩ = some (.int .i64 a0_0) := (blk_cell BK146.out 0).trans rfl; have hcz20_1 : w19.cell? ⟨gb146, 1, none⟩ = some (.int .i64 a0_1) := (blk_cell BK146.out 1).trans rfl; have hcz20_2 : w19.cell? ⟨gb146, 2, none⟩ = some (.slice A0_2 l0_2.length c0_2) := (blk_cell BK146.out 2).trans rfl; have hfz20_0 := blk_frozen BK146.out 0; have hfz20_1 := blk_frozen BK146.out 1; have hfz20_2 := blk_frozen BK146.out 2)); try go_wp2_with (first | ((with_reducible refine gate_dst (N := 2) rfl ?_); (try (refine gate_guard (by rfl) ?_; dsimp only)); refine box_event ?hg (N := 2) ?hd (cs := #[.int .i64 a0_0, .int .i64 a0_1, .slice A0_2 l0_2.length c0_2]) (t := 81) ?hr ?_; (case hd => rfl); (case hg => rfl); (case hr => first | (go_simp; done) | (go_simp; rfl)); intro gb146 hg w19 hbox hb; have n0_ := Aside0.mk (below_step (by repeat (first | (with_reducible first | exact HB.out | apply below_alloc | apply pw_below_drewN | apply below_drew1) | exact HB.out)) hb); have n1_ := Aside0.mk (hbox); have n2_ := Aside0.mk ((by rw [hg]; exact (below_size (by repeat (first | (with_reducible first | exact HB.out | apply below_alloc | apply pw_below_drewN | apply below_drew1) | exact HB.out))) : w.heap.size ≤ gb146)); have n3_ := Aside0.mk ((by rw [hg]; exact (below_size (by repeat (first | (with_reducible first | exact HB.out | apply below_alloc | apply pw_below_drewN | apply below_drew1) | exact HB.out))) : w.heap.size ≤ gb146)); clear HB; have HB := n0_; have BK146 := n1_; have GW146 := n2_; have GE146 := n3_; clear n0_ n1_ n2_ n3_; clear hb hbox hg; have hcz20_0 : w19.cell? ⟨gb146, 0, none⟩ = some (.int .i64 a0_0) := (blk_cell BK146.out 0).trans rfl; have hcz20_1 : w19.cell? ⟨gb146, 1, none⟩ = some (.int .i64 a0_1) := (blk_cell BK146.out 1).trans rfl; have hcz20_2 : w19.cell? ⟨gb146, 2, none⟩ = some (.slice A0_2 l0_2.length c0_2) := (blk_cell BK146.out 2).trans rfl; have hfz20_0 := blk_frozen BK146.out 0; have hfz20_1 := blk_frozen BK146.out 1; have hfz20_2 := blk_frozen BK146.out 2)))
      go_ret
      exact ⟨by first | rfl | (simp [errW_none, errW_some] <;> rfl) | (simp [*, errW_none, errW_some] <;> rfl), by repeat (first | (with_reducible first | exact HB.out | apply below_alloc | apply pw_below_drewN | apply below_drew1 | refine below_set ?_ GE146.out) | exact HB.out)⟩
   ·rw [if_neg c14] at H
    have c14b0 : decide (0 ≤ a0_1) = false := decide_eq_false c14
    clear c14
    obtain rfl := Option.some.inj H
    go_enter Try.func129, Try.ntmps129
    go_wp2_with (first | ((with_reducible refine gate_dst (N := 2) rfl ?_); (try (refine gate_guard (by rfl) ?_; dsimp only)); refine box_event ?hg (N := 2) ?hd (cs := #[.int .i64 a0_0, .int .i64 a0_1, .slice A0_2 l0_2.length c0_2]) (t := 81) ?hr ?_; (case hd => rfl); (case hg => rfl); (case hr => first | (go_simp; done) | (go_simp; rfl)); intro gb146 hg w21 hbox hb; have n0_ := Aside0.mk (below_step (by repeat (first | (with_reducible first | exact HB.out | apply below_alloc | apply pw_below_drewN | apply below_drew1) | exact HB.out)) hb); have n1_ := Aside0.mk (hbox); have n2_ := Aside0.mk ((by rw [hg]; exact (below_size (by repeat (first | (with_reducible first | exact HB.out | apply below_alloc | apply pw_below_drewN | apply below_drew1) | exact HB.out))) : w.heap.size ≤ gb146)); have n3_ := Aside0.mk ((by rw [hg]; exact (below_size (by repeat (first | (with_reducible first | exact HB.out | apply below_alloc | apply pw_below_drewN | apply below_drew1) | exact HB.out))) : w.heap.size ≤ gb146)); clear HB; have HB := n0_; have BK146 := n1_; have GW146 := n2_; have GE146 := n3_; clear n0_ n1_ n2_ n3_; clear hb hbox hg; have hcz22_0 : w21.cell? ⟨gb146, 0, none⟩ = some (.int .i64 a0_0) := (blk_cell BK146.out 0).trans rfl; have hcz22_1 : w21.cell? ⟨gb146, 1, none⟩ = some (.int .i64 a0_1) := (blk_cell BK146.out 1).trans rfl; have hcz22_2 : w21.cell? ⟨gb146, 2, none⟩ = some (.slice A0_2 l0_2.length c0_2) := (blk_cell BK146.out 2).trans rfl; have hfz22_0 := blk_frozen BK146.out 0; have hfz22_1 := blk_frozen BK146.out 1; have hfz22_2 := blk_frozen BK146.out 2))
    repeat (go_quiet (first | ((with_reducible refine gate_dst (N := 2) rfl ?_); (try (refine gate_guard (by rfl) ?_; dsimp only)); refine box_event ?hg (N := 2) ?hd (cs := #[.int .i64 a0_0, .int .i64 a0_1, .slice A0_2 l0_2.length c0_2]) (t := 81) ?hr ?_; (case hd => rfl); (case hg => rfl); (case hr => first | (go_simp; done) | (go_simp; rfl)); intro gb146 hg w21 hbox hb; have n0_ := Aside0.mk (below_step (by repeat (first | (with_reducible first | exact HB.out | apply below_alloc | apply pw_below_drewN | apply below_drew1) | exact HB.out)) hb); have n1_ := Aside0.mk (hbox); have n2_ := Aside0.mk ((by rw [hg]; exact (below_size (by repeat (first | (with_reducible first | exact HB.out | apply below_alloc | apply pw_below_drewN | apply below_drew1) | exact HB.out))) : w.heap.size ≤ gb146)); have n3_ := Aside0.mk ((by rw [hg]; exact (below_size (by repeat (first | (with_reducible first | exact HB.out | apply below_alloc | apply pw_below_drewN | apply below_drew1) | exact HB.out))) : w.heap.size ≤ gb146)); clear HB; have HB := n0_; have BK146 := n1_; have GW146 := n2_; have GE146 := n3_; clear n0_ n1_ n2_ n3_; clear hb hbox hg; have hcz22_0 : w21.cell? ⟨gb146, 0, none⟩ = some (.int .i64 a0_0) := (blk_cell BK146.out 0).trans rfl; have hcz22_1 : w21.cell? ⟨gb146, 1, none⟩ = some (.int .i64 a0_1) := (blk_cell BK146.out 1).trans rfl; have hcz22_2 : w21.cell? ⟨gb146, 2, none⟩ = some (.slice A0_2 l0_2.length c0_2) := (blk_cell BK146.out 2).trans rfl; have hfz22_0 := blk_frozen BK146.out 0; have hfz22_1 := blk_frozen BK146.out 1; have hfz22_2 := blk_frozen BK146.out 2)); try go_wp2_with (first | ((with_reducible refine gate_dst (N := 2) rfl ?_); (try (refine gate_guard (by rfl) ?_; dsimp only)); refine box_event ?hg (N := 2) ?hd (cs := #[.int .i64 a0_0, .int .i64 a0_1, .slice A0_2 l0_2.length c0_2]) (t := 81) ?hr ?_; (case hd => rfl); (case hg => rfl); (case hr => first | (go_simp; done) | (go_simp; rfl)); intro gb146 hg w21 hbox hb; have n0_ := Aside0.mk (below_step (by repeat (first | (with_reducible first | exact HB.out | apply below_alloc | apply pw_below_drewN | apply below_drew1) | exact HB.out)) hb); have n1_ := Aside0.mk (hbox); have n2_ := Aside0.mk ((by rw [hg]; exact (below_size (by repeat (first | (with_reducible first | exact HB.out | apply below_alloc | apply pw_below_drewN | apply below_drew1) | exact HB.out))) : w.heap.size ≤ gb146)); have n3_ := Aside0.mk ((by rw [hg]; exact (below_size (by repeat (first | (with_reducible first | exact HB.out | apply below_alloc | apply pw_below_drewN | apply below_drew1) | exact HB.out))) : w.heap.size ≤ gb146)); clear HB; have HB := n0_; have BK146 := n1_; have GW146 := n2_; have GE146 := n3_; clear n0_ n1_ n2_ n3_; clear hb hbox hg; have hcz22_0 : w21.cell? ⟨gb146, 0, none⟩ = some (.int .i64 a0_0) := (blk_cell BK146.out 0).trans rfl; have hcz22_1 : w21.cell? ⟨gb146, 1, none⟩ = some (.int .i64 a0_1) := (blk_cell BK146.out 1).trans rfl; have hcz22_2 : w21.cell? ⟨gb146, 2, none⟩ = some (.slice A0_2 l0_2.length c0_2) := (blk_cell BK146.out 2).trans rfl; have hfz22_0 := blk_frozen BK146.out 0; have hfz22_1 := blk_frozen BK146.out 1; have hfz22_2 := blk_frozen BK146.out 2)))
    go_ret
    exact ⟨by first | rfl | (simp [errW_none, errW_some] <;> rfl) | (simp [*, errW_none, errW_some] <;> rfl), by repeat (first | (with_reducible first | exact HB.out | apply below_alloc | apply pw_below_drewN | apply below_drew1 | refine below_set ?_ GE146.out) | exact HB.out)⟩
  ·rw [if_neg c13] at H
   have c13b0 : (a0_0 == 2) = false := beq_eq_false_iff_ne.mpr c13
   have c13b1 : (a0_0 != 2) = true := bne_iff_ne.mpr c13
   have HC23 := Aside0.mk H
   clear H
   go_enter Try.func129, Try.ntmps129
   go_upto_if 40 with (first | ((with_reducible refine gate_dst (N := 2) rfl ?_); (try (refine gate_guard (by rfl) ?_; dsimp only)); refine box_event ?hg (N := 2) ?hd (cs := #[.int .i64 a0_0, .int .i64 a0_1, .slice A0_2 l0_2.length c0_2]) (t := 81) ?hr ?_; (case hd => rfl); (case hg => rfl); (case hr => first | (go_simp; done) | (go_simp; rfl)); intro gb146 hg w24 hbox hb; have n0_ := Aside0.mk (below_step (by repeat (first | (with_reducible first | exact HB.out | apply below_alloc | apply pw_below_drewN | apply below_drew1) | exact HB.out)) hb); have n1_ := Aside0.mk (hbox); have n2_ := Aside0.mk ((by rw [hg]; exact (below_size (by repeat (first | (with_reducible first | exact HB.out | apply below_alloc | apply pw_below_drewN | apply below_drew1) | exact HB.out))) : w.heap.size ≤ gb146)); have n3_ := Aside0.mk ((by rw [hg]; exact (below_size (by repeat (first | (with_reducible first | exact HB.out | apply below_alloc | apply pw_below_drewN | apply below_drew1) | exact HB.out))) : w.heap.size ≤ gb146)); clear HB; have HB := n0_; have BK146 := n1_; have GW146 := n2_; have GE146 := n3_; clear n0_ n1_ n2_ n3_; clear hb hbox hg; have hcz25_0 : w24.cell? ⟨gb146, 0, none⟩ = some (.int .i64 a0_0) := (blk_cell BK146.out 0).trans rfl; have hcz25_1 : w24.cell? ⟨gb146, 1, none⟩ = some (.int .i64 a0_1) := (blk_cell BK146.out 1).trans rfl; have hcz25_2 : w24.cell? ⟨gb146, 2, none⟩ = some (.slice A0_2 l0_2.length c0_2) := (blk_cell BK146.out 2).trans rfl; have hfz25_0 := blk_frozen BK146.out 0; have hfz25_1 := blk_frozen BK146.out 1; have hfz25_2 := blk_frozen BK146.out 2))
   repeat (go_quiet (first | ((with_reducible refine gate_dst (N := 2) rfl ?_); (try (refine gate_guard (by rfl) ?_; dsimp only)); refine box_event ?hg (N := 2) ?hd (cs := #[.int .i64 a0_0, .int .i64 a0_1, .slice A0_2 l0_2.length c0_2]) (t := 81) ?hr ?_; (case hd => rfl); (case hg => rfl); (case hr => first | (go_simp; done) | (go_simp; rfl)); intro gb146 hg w24 hbox hb; have n0_ := Aside0.mk (below_step (by repeat (first | (with_reducible first | exact HB.out | apply below_alloc | apply pw_below_drewN | apply below_drew1) | exact HB.out)) hb); have n1_ := Aside0.mk (hbox); have n2_ := Aside0.mk ((by rw [hg]; exact (below_size (by repeat (first | (with_reducible first | exact HB.out | apply below_alloc | apply pw_below_drewN | apply below_drew1) | exact HB.out))) : w.heap.size ≤ gb146)); have n3_ := Aside0.mk ((by rw [hg]; exact (below_size (by repeat (first | (with_reducible first | exact HB.out | apply below_alloc | apply pw_below_drewN | apply below_drew1) | exact HB.out))) : w.heap.size ≤ gb146)); clear HB; have HB := n0_; have BK146 := n1_; have GW146 := n2_; have GE146 := n3_; clear n0_ n1_ n2_ n3_; clear hb hbox hg; have hcz25_0 : w24.cell? ⟨gb146, 0, none⟩ = some (.int .i64 a0_0) := (blk_cell BK146.out 0).trans rfl; have hcz25_1 : w24.cell? ⟨gb146, 1, none⟩ = some (.int .i64 a0_1) := (blk_cell BK146.out 1).trans rfl; have hcz25_2 : w24.cell? ⟨gb146, 2, none⟩ = some (.slice A0_2 l0_2.length c0_2) := (blk_cell BK146.out 2).trans rfl; have hfz25_0 := blk_frozen BK146.out 0; have hfz25_1 := blk_frozen BK146.out 1; have hfz25_2 := blk_frozen BK146.out 2)); go_upto_if 40 with (first | ((with_reducible refine gate_dst (N := 2) rfl ?_); (try (refine gate_guard (by rfl) ?_; dsimp only)); refine box_event ?hg (N := 2) ?hd (cs := #[.int .i64 a0_0, .int .i64 a0_1, .slice A0_2 l0_2.length c0_2]) (t := 81) ?hr ?_; (case hd => rfl); (case hg => rfl); (case hr => first | (go_simp; done) | (go_simp; rfl)); intro gb146 hg w24 hbox hb; have n0_ := Aside0.mk (below_step (by repeat (first | (with_reducible first | exact HB.out | apply below_alloc | apply pw_below_drewN | apply below_drew1) | exact HB.out)) hb); have n1_ := Aside0.mk (hbox); have n2_ := Aside0.mk ((by rw [hg]; exact (below_size (by repeat (first | (with_reducible first | exact HB.out | apply below_alloc | apply pw_below_drewN | apply below_drew1) | exact HB.out))) : w.heap.size ≤ gb146)); have n3_ := Aside0.mk ((by rw [hg]; exact (below_size (by repeat (first | (with_reducible first | exact HB.out | apply below_alloc | apply pw_below_drewN | apply below_drew1) | exact HB.out))) : w.heap.size ≤ gb146)); clear HB; have HB := n0_; have BK146 := n1_; have GW146 := n2_; have GE146 := n3_; clear n0_ n1_ n2_ n3_; clear hb hbox hg; have hcz25_0 : w24.cell? ⟨gb146, 0, none⟩ = some (.int .i64 a0_0) := (blk_cell BK146.out 0).trans rfl; have hcz25_1 : w24.cell? ⟨gb146, 1, none⟩ = some (.int .i64 a0_1) := (blk_cell BK146.out 1).trans rfl; have hcz25_2 : w24.cell? ⟨gb146, 2, none⟩ = some (.slice A0_2 l0_2.length c0_2) := (blk_cell BK146.out 2).trans rfl; have hfz25_0 := blk_frozen BK146.out 0; have hfz25_1 := blk_frozen BK146.out 1; have hfz25_2 := blk_frozen BK146.out 2)))
   (try simp only [Act.put, List.setIfInBounds_toArray, List.set_cons_zero, List.set_cons_succ])
   go_cut [40] (fun v40 wc => ∃ (kq : Nat) (x40_22 : Bool), v40 = .bool x40_22 ∧ Aside0 (spec_l05Right.j0 kq a1 x40_22 a0_0 a0_1 l0_2 = some r) ∧ Aside0 (kq ≤ k) ∧ Aside0 (wc.heap[gb146]? = some (.cells #[.int .i64 a0_0, .int .i64 a0_1, (.slice A0_2 l0_2.length c0_2)] 81 (0, 0))) ∧ Aside0 (Below w.heap.size w wc))
   case first =>
    have H := HC23.out
    clear HC23
    by_cases c26 : a0_0 = 3
    ·rw [if_pos c26] at H
     have c26b0 : (a0_0 == 3) = true := beq_iff_eq.mpr c26
     have c26b1 : (a0_0 != 3) = false := bne_eq_false_iff_eq.mpr c26
     clear c26
     (first | rw [c26b0] | (simp only [i64_w, i32_w]; rw [c26b0]) | skip)
     have H' := Aside0.mk H
     clear H
     go_wp2
     repeat (go_quiet (fail); try go_wp2)
     go_meet
     case rel => exact ⟨_, ((a0_0 == 3)), (by first | rfl | (simp; done) | (simp [*]; done)), H', ⟨by first | omega | exact Nat.le_refl _⟩, ⟨by (with_reducible repeat (first | refine blk_drewN ?_ _ | refine blk_drew ?_ | refine blk_alloc ?_ _)); exact BK146.out⟩, ⟨by repeat (first | (with_reducible first | exact HB.out | apply below_alloc | apply pw_below_drewN | apply below_drew1 | refine below_set ?_ GE146.out) | exact HB.out)⟩⟩
    ·rw [if_neg c26] at H
     have c26b0 : (a0_0 == 3) = false := beq_eq_false_iff_ne.mpr c26
     have c26b1 : (a0_0 != 3) = true := bne_iff_ne.mpr c26
     (first | rw [c26b0] | (simp only [i64_w, i32_w]; rw [c26b0]) | skip)
     by_cases c27 : a0_0 = 4
     ·rw [if_pos c27] at H
      have c27b0 : (a0_0 == 4) = true := beq_iff_eq.mpr c27
      have c27b1 : (a0_0 != 4) = false := bne_eq_false_iff_eq.mpr c27
      clear c27
      have H' := Aside0.mk H
      clear H
      go_wp2
      repeat (go_quiet (fail); try go_wp2)
      go_meet
      case rel => exact ⟨_, ((a0_0 == 4)), (by first | rfl | (simp; done) | (simp [*]; done)), H', ⟨by first | omega | exact Nat.le_refl _⟩, ⟨by (with_reducible repeat (first | refine blk_drewN ?_ _ | refine blk_drew ?_ | refine blk_alloc ?_ _)); exact BK146.out⟩, ⟨by repeat (first | (with_reducible first | exact HB.out | apply below_alloc | apply pw_below_drewN | apply below_drew1 | refine below_set ?_ GE146.out) | exact HB.out)⟩⟩
     ·rw [if_neg c27] at H
      have c27b0 : (a0_0 == 4) = false := beq_eq_false_iff_ne.mpr c27
      have c27b1 : (a0_0 != 4) = true := bne_iff_ne.mpr c27
      have H' := Aside0.mk H
      clear H
      go_wp2
      repeat (go_quiet (fail); try go_wp2)
      go_meet
      case rel => exact ⟨_, ((a0_0 == 5)), (by first | rfl | (simp; done) | (simp [*]; done)), H', ⟨by first | omega | exact Nat.le_refl _⟩, ⟨by (with_reducible repeat (first | refine blk_drewN ?_ _ | refine blk_drew ?_ | refine blk_alloc ?_ _)); exact BK146.out⟩, ⟨by repeat (first | (with_reducible first | exact HB.out | apply below_alloc | apply pw_below_drewN | apply below_drew1 | refine below_set ?_ GE146.out) | exact HB.out)⟩⟩
   case rest =>
    clear HC23
    try clear c1
    try clear c2
    try clear p2
    try clear c3
    try clear c3b0
    try clear c3b1
    try clear c5
    try clear c5b0
    try clear c5b1
    try clear p6
    try clear c8
    try clear c12
    try clear c13
    try clear c13b0
    try clear c13b1
    try clear c14
    try clear c14b0
    try clear c15
    try clear c15b0
    try clear c15b1
    try clear c16
    try clear c16b0
    try clear c26
    try clear c26b0
    try clear c26b1
    try clear c27
    try clear c27b0
    try clear c27b1
    try clear hcz10_0
    try clear hcz10_1
    try clear hcz10_2
    try clear hcz12_0
    try clear hcz12_1
    try clear hcz12_2
    try clear hcz18_0
    try clear hcz18_1
    try clear hcz18_2
    try clear hcz20_0
    try clear hcz20_1
    try clear hcz20_2
    try clear hcz22_0
    try clear hcz22_1
    try clear hcz22_2
    try clear hcz25_0
    try clear hcz25_1
    try clear hcz25_2
    try clear hfz10_0
    try clear hfz10_1
    try clear hfz10_2
    try clear hfz12_0
    try clear hfz12_1
    try clear hfz12_2
    try clear hfz18_0
    try clear hfz18_1
    try clear hfz18_2
    try clear hfz20_0
    try clear hfz20_1
    try clear hfz20_2
    try clear hfz22_0
    try clear hfz22_1
    try clear hfz22_2
    try clear hfz25_0
    try clear hfz25_1
    try clear hfz25_2
    obtain ⟨kq, x40_22, rfl, HA, HJ22, BK146, HB⟩ := hcut
    cases kq with
    | zero => exact absurd HA.out (by simp [spec_l05Right.j0])
    | succ kj22 =>
     have H := HA.out
     clear HA
     simp only [spec_l05Right.j0] at H
     by_cases c28 : x40_22 = true
     ·subst c28
      have H1 : (if a0_1 = 0 then (if (l0_2.length : Int) = 2 then (if 0 < (l0_2.length : Int) then ((spec_l05Right.f kj22 ((rd_T81 l0_2 0).f0) ((rd_T81 l0_2 0).f1) ((rd_T81 l0_2 0).f2) a1).bind fun t149 => (if t149 = true then (if 1 < (l0_2.length : Int) then ((spec_l05Right.f kj22 ((rd_T81 l0_2 1).f0) ((rd_T81 l0_2 1).f1) ((rd_T81 l0_2 1).f2) a1).bind fun t151 => (some t151)) else (none)) else (some false))) else (none)) else (some false)) else (some false)) = some r := by rw [if_pos rfl] at H; exact H
      clear H
      have H := H1
      clear H1
      by_cases c29 : a0_1 = 0
      ·rw [if_pos c29] at H
       have c29b0 : (a0_1 == 0) = true := beq_iff_eq.mpr c29
       have c29b1 : (a0_1 != 0) = false := bne_eq_false_iff_eq.mpr c29
       clear c29
       by_cases c30 : (l0_2.length : Int) = 2
       ·rw [if_pos c30] at H
        have c30b0 : ((l0_2.length : Int) == 2) = true := beq_iff_eq.mpr c30
        have c30b1 : ((l0_2.length : Int) != 2) = false := bne_eq_false_iff_eq.mpr c30
        clear c30
        by_cases c31 : 0 < (l0_2.length : Int)
        ·rw [if_pos c31] at H
         have c31b0 : decide (0 < (l0_2.length : Int)) = true := decide_eq_true c31
         have c31b1 : decide (0 < l0_2.length) = true := decide_eq_true (by omega)
         clear c31
         replace H := Option.bind_eq_some_iff.mp H
         obtain ⟨t149, A320, H⟩ := H
         replace H : (if t149 = true then (if 1 < (l0_2.length : Int) then ((spec_l05Right.f kj22 ((rd_T81 l0_2 1).f0) ((rd_T81 l0_2 1).f1) ((rd_T81 l0_2 1).f2) a1).bind fun t151 => (some t151)) else (none)) else (some false)) = some r := H
         have A32 := Aside0.mk A320
         clear A320
         by_cases c33 : t149 = true
         ·subst c33
          have H1 : (if 1 < (l0_2.length : Int) then ((spec_l05Right.f kj22 ((rd_T81 l0_2 1).f0) ((rd_T81 l0_2 1).f1) ((rd_T81 l0_2 1).f2) a1).bind fun t151 => (some t151)) else (none)) = some r := by rw [if_pos rfl] at H; exact H
          clear H
          have H := H1
          clear H1
          by_cases c34 : 1 < (l0_2.length : Int)
          ·rw [if_pos c34] at H
           have c34b0 : decide (1 < (l0_2.length : Int)) = true := decide_eq_true c34
           have c34b1 : decide (1 < l0_2.length) = true := decide_eq_true (by omega)
           clear c34
           replace H := Option.bind_eq_some_iff.mp H
           obtain ⟨t151, A350, H⟩ := H
           replace H : (some t151) = some r := H
           have A35 := Aside0.mk A350
           clear A350
           obtain rfl := Option.some.inj H
           have hcz36_0 : wc.cell? ⟨gb146, 0, none⟩ = some (.int .i64 a0_0) := (blk_cell BK146.out 0).trans rfl
           have hcz36_1 : wc.cell? ⟨gb146, 1, none⟩ = some (.int .i64 a0_1) := (blk_cell BK146.out 1).trans rfl
           have hcz36_2 : wc.cell? ⟨gb146, 2, none⟩ = some (.slice A0_2 l0_2.length c0_2) := (blk_cell BK146.out 2).trans rfl
           have hfz36_0 := blk_frozen BK146.out 0
           have hfz36_1 := blk_frozen BK146.out 1
           have hfz36_2 := blk_frozen BK146.out 2
           have p148 : 0 ≤ (0 : Int) := (by omega)
           have q148 : 0 < (l0_2.length : Int) := of_decide_eq_true (by first | (with_reducible assumption) | assumption)
           obtain ⟨ad148, A148_2, c148_2, e148, hx148_0, hx148_1, hx148_2, hl148_2, hi148_2⟩ := at_T81 HR0_2.out 0 p148 q148
           cases e148
           have qi148 : (0 < l0_2.length) = True := eq_true (by omega)
           (try rw [show ((0 : Int)).toNat = 0 from rfl] at hx148_0)
           (try rw [show 0 * 3 = 0 from rfl] at hx148_0)
           (try rw [Addr.add_zero'] at hx148_0)
           (try rw [show ((0 : Int)).toNat = 0 from rfl] at hx148_1)
           (try rw [show 0 * 3 = 0 from rfl] at hx148_1)
           (try rw [Addr.add_zero'] at hx148_1)
           (try rw [show ((0 : Int)).toNat = 0 from rfl] at hx148_2)
           (try rw [show 0 * 3 = 0 from rfl] at hx148_2)
           (try rw [Addr.add_zero'] at hx148_2)
           replace hx148_0 := (HB.out.cell (World.block_lt_of_cell? w _ hx148_0)).trans hx148_0
           replace hx148_1 := (HB.out.cell (World.block_lt_of_cell? w _ hx148_1)).trans hx148_1
           replace hx148_2 := (HB.out.cell (World.block_lt_of_cell? w _ hx148_2)).trans hx148_2
           have HR148_2 := Aside0.mk hi148_2
           have HC148_2 := Aside0.mk hl148_2
           clear hi148_2 hl148_2
           replace p148 := eq_true p148
           replace q148 := eq_true q148
           go_wp2_with (first | (go_at_call 129; (with_reducible refine (ih kj22 (by have := HJ22.out; omega) ((rd_T81 l0_2 0).f0) ((rd_T81 l0_2 0).f1) _ _ ((rd_T81 l0_2 0).f2) a1 true _ ?side1 ?side2 A32.out).mono ?_); (case side1 => repeat (first | exact (Kd.C_below HR148_2.out HB.out) | (with_reducible refine Kd.C_alloc ?_ _) | (with_reducible refine Kd.C_drewN ?_ _) | (with_reducible refine Kd.C_drew ?_))); (case side2 => exact HC148_2.out); rintro e w37 ⟨rfl, hb⟩; have n0_ := Aside0.mk (blk_below (g := gb146) (o := .cells #[.int .i64 a0_0, .int .i64 a0_1, .slice (some ad148) l0_2.length c0_2] 81 (0, 0)) (by (with_reducible repeat (first | refine blk_drewN ?_ _ | refine blk_drew ?_ | refine blk_alloc ?_ _)); exact BK146.out) hb); have n1_ := Aside0.mk (below_step (by repeat (first | (with_reducible first | exact HB.out | apply below_alloc | apply pw_below_drewN | apply below_drew1 | refine below_set ?_ GE146.out) | exact HB.out)) hb); clear BK146; clear HB; have BK146 := n0_; have HB := n1_; clear n0_ n1_; (try clear hb); (try clear hb2); (try clear hk); (try clear hi); have hcz38_0 : w37.cell? ⟨gb146, 0, none⟩ = some (.int .i64 a0_0) := (blk_cell BK146.out 0).trans rfl; have hcz38_1 : w37.cell? ⟨gb146, 1, none⟩ = some (.int .i64 a0_1) := (blk_cell BK146.out 1).trans rfl; have hcz38_2 : w37.cell? ⟨gb146, 2, none⟩ = some (.slice (some ad148) l0_2.length c0_2) := (blk_cell BK146.out 2).trans rfl; have hfz38_0 := blk_frozen BK146.out 0; have hfz38_1 := blk_frozen BK146.out 1; have hfz38_2 := blk_frozen BK146.out 2; have p150 : 0 ≤ (1 : Int) := (by omega); have q150 : 1 < (l0_2.length : Int) := of_decide_eq_true (by first | (with_reducible assumption) | assumption); obtain ⟨ad150, A150_2, c150_2, e150, hx150_0, hx150_1, hx150_2, hl150_2, hi150_2⟩ := at_T81 HR0_2.out 1 p150 q150; obtain rfl : ad148 = ad150 := (by injection e150); (try simp only [show (1 : Int).toNat = 1 from rfl, Nat.reduceMul, Nat.reduceEqDiff, Go.Addr.add, ↓reduceIte] at hx150_0); (try simp only [show (1 : Int).toNat = 1 from rfl, Nat.reduceMul, Nat.reduceEqDiff, Go.Addr.add, ↓reduceIte] at hx150_1); (try simp only [show (1 : Int).toNat = 1 from rfl, Nat.reduceMul, Nat.reduceEqDiff, Go.Addr.add, ↓reduceIte] at hx150_2); have qi150 : (1 < l0_2.length) = True := eq_true (by omega); (try rw [show ((1 : Int)).toNat = 1 from rfl] at hx150_0); (try rw [show 1 * 3 = 3 from rfl] at hx150_0); (try rw [show ((1 : Int)).toNat = 1 from rfl] at hx150_1); (try rw [show 1 * 3 = 3 from rfl] at hx150_1); (try rw [show ((1 : Int)).toNat = 1 from rfl] at hx150_2); (try rw [show 1 * 3 = 3 from rfl] at hx150_2); replace hx150_0 := (HB.out.cell (World.block_lt_of_cell? w _ hx150_0)).trans hx150_0; replace hx150_1 := (HB.out.cell (World.block_lt_of_cell? w _ hx150_1)).trans hx150_1; replace hx150_2 := (HB.out.cell (World.block_lt_of_cell? w _ hx150_2)).trans hx150_2; have HR150_2 := Aside0.mk hi150_2; have HC150_2 := Aside0.mk hl150_2; clear hi150_2 hl150_2; replace p150 := eq_true p150; replace q150 := eq_true q150) | (go_at_call 129; (with_reducible refine (ih kj22 (by have := HJ22.out; omega) ((rd_T81 l0_2 1).f0) ((rd_T81 l0_2 1).f1) _ _ ((rd_T81 l0_2 1).f2) a1 t151 _ ?side1 ?side2 A35.out).mono ?_); (case side1 => repeat (first | exact (Kd.C_below HR150_2.out HB.out) | (with_reducible refine Kd.C_alloc ?_ _) | (with_reducible refine Kd.C_drewN ?_ _) | (with_reducible refine Kd.C_drew ?_))); (case side2 => exact HC150_2.out); rintro e w39 ⟨rfl, hb⟩; have n0_ := Aside0.mk (blk_below (g := gb146) (o := .cells #[.int .i64 a0_0, .int .i64 a0_1, .slice (some ad148) l0_2.length c0_2] 81 (0, 0)) (by (with_reducible repeat (first | refine blk_drewN ?_ _ | refine blk_drew ?_ | refine blk_alloc ?_ _)); exact BK146.out) hb); have n1_ := Aside0.mk (below_step (by repeat (first | (with_reducible first | exact HB.out | apply below_alloc | apply pw_below_drewN | apply below_drew1 | refine below_set ?_ GE146.out) | exact HB.out)) hb); clear BK146; clear HB; have BK146 := n0_; have HB := n1_; clear n0_ n1_; (try clear hb); (try clear hb2); (try clear hk); (try clear hi)))
           repeat (go_quiet (first | (go_at_call 129; (with_reducible refine (ih kj22 (by have := HJ22.out; omega) ((rd_T81 l0_2 0).f0) ((rd_T81 l0_2 0).f1) _ _ ((rd_T81 l0_2 0).f2) a1 true _ ?side1 ?side2 A32.out).mono ?_); (case side1 => repeat (first | exact (Kd.C_below HR148_2.out HB.out) | (with_reducible refine Kd.C_alloc ?_ _) | (with_reducible refine Kd.C_drewN ?_ _) | (with_reducible refine Kd.C_drew ?_))); (case side2 => exact HC148_2.out); rintro e w37 ⟨rfl, hb⟩; have n0_ := Aside0.mk (blk_below (g := gb146) (o := .cells #[.int .i64 a0_0, .int .i64 a0_1, .slice (some ad148) l0_2.length c0_2] 81 (0, 0)) (by (with_reducible repeat (first | refine blk_drewN ?_ _ | refine blk_drew ?_ | refine blk_alloc ?_ _)); exact BK146.out) hb); have n1_ := Aside0.mk (below_step (by repeat (first | (with_reducible first | exact HB.out | apply below_alloc | apply pw_below_drewN | apply below_drew1 | refine below_set ?_ GE146.out) | exact HB.out)) hb); clear BK146; clear HB; have BK146 := n0_; have HB := n1_; clear n0_ n1_; (try clear hb); (try clear hb2); (try clear hk); (try clear hi); have hcz38_0 : w37.cell? ⟨gb146, 0, none⟩ = some (.int .i64 a0_0) := (blk_cell BK146.out 0).trans rfl; have hcz38_1 : w37.cell? ⟨gb146, 1, none⟩ = some (.int .i64 a0_1) := (blk_cell BK146.out 1).trans rfl; have hcz38_2 : w37.cell? ⟨gb146, 2, none⟩ = some (.slice (some ad148) l0_2.length c0_2) := (blk_cell BK146.out 2).trans rfl; have hfz38_0 := blk_frozen BK146.out 0; have hfz38_1 := blk_frozen BK146.out 1; have hfz38_2 := blk_frozen BK146.out 2; have p150 : 0 ≤ (1 : Int) := (by omega); have q150 : 1 < (l0_2.length : Int) := of_decide_eq_true (by first | (with_reducible assumption) | assumption); obtain ⟨ad150, A150_2, c150_2, e150, hx150_0, hx150_1, hx150_2, hl150_2, hi150_2⟩ := at_T81 HR0_2.out 1 p150 q150; obtain rfl : ad148 = ad150 := (by injection e150); (try simp only [show (1 : Int).toNat = 1 from rfl, Nat.reduceMul, Nat.reduceEqDiff, Go.Addr.add, ↓reduceIte] at hx150_0); (try simp only [show (1 : Int).toNat = 1 from rfl, Nat.reduceMul, Nat.reduceEqDiff, Go.Addr.add, ↓reduceIte] at hx150_1); (try simp only [show (1 : Int).toNat = 1 from rfl, Nat.reduceMul, Nat.reduceEqDiff, Go.Addr.add, ↓reduceIte] at hx150_2); have qi150 : (1 < l0_2.length) = True := eq_true (by omega); (try rw [show ((1 : Int)).toNat = 1 from rfl] at hx150_0); (try rw [show 1 * 3 = 3 from rfl] at hx150_0); (try rw [show ((1 : Int)).toNat = 1 from rfl] at hx150_1); (try rw [show 1 * 3 = 3 from rfl] at hx150_1); (try rw [show ((1 : Int)).toNat = 1 from rfl] at hx150_2); (try rw [show 1 * 3 = 3 from rfl] at hx150_2); replace hx150_0 := (HB.out.cell (World.block_lt_of_cell? w _ hx150_0)).trans hx150_0; replace hx150_1 := (HB.out.cell (World.block_lt_of_cell? w _ hx150_1)).trans hx150_1; replace hx150_2 := (HB.out.cell (World.block_lt_of_cell? w _ hx150_2)).trans hx150_2; have HR150_2 := Aside0.mk hi150_2; have HC150_2 := Aside0.mk hl150_2; clear hi150_2 hl150_2; replace p150 := eq_true p150; replace q150 := eq_true q150) | (go_at_call 129; (with_reducible refine (ih kj22 (by have := HJ22.out; omega) ((rd_T81 l0_2 1).f0) ((rd_T81 l0_2 1).f1) _ _ ((rd_T81 l0_2 1).f2) a1 t151 _ ?side1 ?side2 A35.out).mono ?_); (case side1 => repeat (first | exact (Kd.C_below HR150_2.out HB.out) | (with_reducible refine Kd.C_alloc ?_ _) | (with_reducible refine Kd.C_drewN ?_ _) | (with_reducible refine Kd.C_drew ?_))); (case side2 => exact HC150_2.out); rintro e w39 ⟨rfl, hb⟩; have n0_ := Aside0.mk (blk_below (g := gb146) (o := .cells #[.int .i64 a0_0, .int .i64 a0_1, .slice (some ad148) l0_2.length c0_2] 81 (0, 0)) (by (with_reducible repeat (first | refine blk_drewN ?_ _ | refine blk_drew ?_ | refine blk_alloc ?_ _)); exact BK146.out) hb); have n1_ := Aside0.mk (below_step (by repeat (first | (with_reducible first | exact HB.out | apply below_alloc | apply pw_below_drewN | apply below_drew1 | refine below_set ?_ GE146.out) | exact HB.out)) hb); clear BK146; clear HB; have BK146 := n0_; have HB := n1_; clear n0_ n1_; (try clear hb); (try clear hb2); (try clear hk); (try clear hi))); try go_wp2_with (first | (go_at_call 129; (with_reducible refine (ih kj22 (by have := HJ22.out; omega) ((rd_T81 l0_2 0).f0) ((rd_T81 l0_2 0).f1) _ _ ((rd_T81 l0_2 0).f2) a1 true _ ?side1 ?side2 A32.out).mono ?_); (case side1 => repeat (first | exact (Kd.C_below HR148_2.out HB.out) | (with_reducible refine Kd.C_alloc ?_ _) | (with_reducible refine Kd.C_drewN ?_ _) | (with_reducible refine Kd.C_drew ?_))); (case side2 => exact HC148_2.out); rintro e w37 ⟨rfl, hb⟩; have n0_ := Aside0.mk (blk_below (g := gb146) (o := .cells #[.int .i64 a0_0, .int .i64 a0_1, .slice (some ad148) l0_2.length c0_2] 81 (0, 0)) (by (with_reducible repeat (first | refine blk_drewN ?_ _ | refine blk_drew ?_ | refine blk_alloc ?_ _)); exact BK146.out) hb); have n1_ := Aside0.mk (below_step (by repeat (first | (with_reducible first | exact HB.out | apply below_alloc | apply pw_below_drewN | apply below_drew1 | refine below_set ?_ GE146.out) | exact HB.out)) hb); clear BK146; clear HB; have BK146 := n0_; have HB := n1_; clear n0_ n1_; (try clear hb); (try clear hb2); (try clear hk); (try clear hi); have hcz38_0 : w37.cell? ⟨gb146, 0, none⟩ = some (.int .i64 a0_0) := (blk_cell BK146.out 0).trans rfl; have hcz38_1 : w37.cell? ⟨gb146, 1, none⟩ = some (.int .i64 a0_1) := (blk_cell BK146.out 1).trans rfl; have hcz38_2 : w37.cell? ⟨gb146, 2, none⟩ = some (.slice (some ad148) l0_2.length c0_2) := (blk_cell BK146.out 2).trans rfl; have hfz38_0 := blk_frozen BK146.out 0; have hfz38_1 := blk_frozen BK146.out 1; have hfz38_2 := blk_frozen BK146.out 2; have p150 : 0 ≤ (1 : Int) := (by omega); have q150 : 1 < (l0_2.length : Int) := of_decide_eq_true (by first | (with_reducible assumption) | assumption); obtain ⟨ad150, A150_2, c150_2, e150, hx150_0, hx150_1, hx150_2, hl150_2, hi150_2⟩ := at_T81 HR0_2.out 1 p150 q150; obtain rfl : ad148 = ad150 := (by injection e150); (try simp only [show (1 : Int).toNat = 1 from rfl, Nat.reduceMul, Nat.reduceEqDiff, Go.Addr.add, ↓reduceIte] at hx150_0); (try simp only [show (1 : Int).toNat = 1 from rfl, Nat.reduceMul, Nat.reduceEqDiff, Go.Addr.add, ↓reduceIte] at hx150_1); (try simp only [show (1 : Int).toNat = 1 from rfl, Nat.reduceMul, Nat.reduceEqDiff, Go.Addr.add, ↓reduceIte] at hx150_2); have qi150 : (1 < l0_2.length) = True := eq_true (by omega); (try rw [show ((1 : Int)).toNat = 1 from rfl] at hx150_0); (try rw [show 1 * 3 = 3 from rfl] at hx150_0); (try rw [show ((1 : Int)).toNat = 1 from rfl] at hx150_1); (try rw [show 1 * 3 = 3 from rfl] at hx150_1); (try rw [show ((1 : Int)).toNat = 1 from rfl] at hx150_2); (try rw [show 1 * 3 = 3 from rfl] at hx150_2); replace hx150_0 := (HB.out.cell (World.block_lt_of_cell? w _ hx150_0)).trans hx150_0; replace hx150_1 := (HB.out.cell (World.block_lt_of_cell? w _ hx150_1)).trans hx150_1; replace hx150_2 := (HB.out.cell (World.block_lt_of_cell? w _ hx150_2)).trans hx150_2; have HR150_2 := Aside0.mk hi150_2; have HC150_2 := Aside0.mk hl150_2; clear hi150_2 hl150_2; replace p150 := eq_true p150; replace q150 := eq_true q150) | (go_at_call 129; (with_reducible refine (ih kj22 (by have := HJ22.out; omega) ((rd_T81 l0_2 1).f0) ((rd_T81 l0_2 1).f1) _ _ ((rd_T81 l0_2 1).f2) a1 t151 _ ?side1 ?side2 A35.out).mono ?_); (case side1 => repeat (first | exact (Kd.C_below HR150_2.out HB.out) | (with_reducible refine Kd.C_alloc ?_ _) | (with_reducible refine Kd.C_drewN ?_ _) | (with_reducible refine Kd.C_drew ?_))); (case side2 => exact HC150_2.out); rintro e w39 ⟨rfl, hb⟩; have n0_ := Aside0.mk (blk_below (g := gb146) (o := .cells #[.int .i64 a0_0, .int .i64 a0_1, .slice (some ad148) l0_2.length c0_2] 81 (0, 0)) (by (with_reducible repeat (first | refine blk_drewN ?_ _ | refine blk_drew ?_ | refine blk_alloc ?_ _)); exact BK146.out) hb); have n1_ := Aside0.mk (below_step (by repeat (first | (with_reducible first | exact HB.out | apply below_alloc | apply pw_below_drewN | apply below_drew1 | refine below_set ?_ GE146.out) | exact HB.out)) hb); clear BK146; clear HB; have BK146 := n0_; have HB := n1_; clear n0_ n1_; (try clear hb); (try clear hb2); (try clear hk); (try clear hi))))
           go_ret
           exact ⟨by first | rfl | (simp [errW_none, errW_some] <;> rfl) | (simp [*, errW_none, errW_some] <;> rfl), by repeat (first | (with_reducible first | exact HB.out | apply below_alloc | apply pw_below_drewN | apply below_drew1 | refine below_set ?_ GE146.out) | exact HB.out)⟩
          ·rw [if_neg c34] at H
           exact absurd H (by simp)
         ·replace c33 := Bool.eq_false_iff.mpr c33
          subst c33
          have H1 : (some false) = some r := by rw [if_neg (show ¬ (false = true) by decide)] at H; exact H
          clear H
          have H := H1
          clear H1
          obtain rfl := Option.some.inj H
          have hcz40_0 : wc.cell? ⟨gb146, 0, none⟩ = some (.int .i64 a0_0) := (blk_cell BK146.out 0).trans rfl
          have hcz40_1 : wc.cell? ⟨gb146, 1, none⟩ = some (.int .i64 a0_1) := (blk_cell BK146.out 1).trans rfl
          have hcz40_2 : wc.cell? ⟨gb146, 2, none⟩ = some (.slice A0_2 l0_2.length c0_2) := (blk_cell BK146.out 2).trans rfl
          have hfz40_0 := blk_frozen BK146.out 0
          have hfz40_1 := blk_frozen BK146.out 1
          have hfz40_2 := blk_frozen BK146.out 2
          have p148 : 0 ≤ (0 : Int) := (by omega)
          have q148 : 0 < (l0_2.length : Int) := of_decide_eq_true (by first | (with_reducible assumption) | assumption)
          obtain ⟨ad148, A148_2, c148_2, e148, hx148_0, hx148_1, hx148_2, hl148_2, hi148_2⟩ := at_T81 HR0_2.out 0 p148 q148
          cases e148
          have qi148 : (0 < l0_2.length) = True := eq_true (by omega)
          (try rw [show ((0 : Int)).toNat = 0 from rfl] at hx148_0)
          (try rw [show 0 * 3 = 0 from rfl] at hx148_0)
          (try rw [Addr.add_zero'] at hx148_0)
          (try rw [show ((0 : Int)).toNat = 0 from rfl] at hx148_1)
          (try rw [show 0 * 3 = 0 from rfl] at hx148_1)
          (try rw [Addr.add_zero'] at hx148_1)
          (try rw [show ((0 : Int)).toNat = 0 from rfl] at hx148_2)
          (try rw [show 0 * 3 = 0 from rfl] at hx148_2)
          (try rw [Addr.add_zero'] at hx148_2)
          replace hx148_0 := (HB.out.cell (World.block_lt_of_cell? w _ hx148_0)).trans hx148_0
          replace hx148_1 := (HB.out.cell (World.block_lt_of_cell? w _ hx148_1)).trans hx148_1
          replace hx148_2 := (HB.out.cell (World.block_lt_of_cell? w _ hx148_2)).trans hx148_2
          have HR148_2 := Aside0.mk hi148_2
          have HC148_2 := Aside0.mk hl148_2
          clear hi148_2 hl148_2
          replace p148 := eq_true p148
          replace q148 := eq_true q148
          go_wp2_with (first | (go_at_call 129; (with_reducible refine (ih kj22 (by have := HJ22.out; omega) ((rd_T81 l0_2 0).f0) ((rd_T81 l0_2 0).f1) _ _ ((rd_T81 l0_2 0).f2) a1 false _ ?side1 ?side2 A32.out).mono ?_); (case side1 => repeat (first | exact (Kd.C_below HR148_2.out HB.out) | (with_reducible refine Kd.C_alloc ?_ _) | (with_reducible refine Kd.C_drewN ?_ _) | (with_reducible refine Kd.C_drew ?_))); (case side2 => exact HC148_2.out); rintro e w41 ⟨rfl, hb⟩; have n0_ := Aside0.mk (blk_below (g := gb146) (o := .cells #[.int .i64 a0_0, .int .i64 a0_1, .slice (some ad148) l0_2.length c0_2] 81 (0, 0)) (by (with_reducible repeat (first | refine blk_drewN ?_ _ | refine blk_drew ?_ | refine blk_alloc ?_ _)); exact BK146.out) hb); have n1_ := Aside0.mk (below_step (by repeat (first | (with_reducible first | exact HB.out | apply below_alloc | apply pw_below_drewN | apply below_drew1 | refine below_set ?_ GE146.out) | exact HB.out)) hb); clear BK146; clear HB; have BK146 := n0_; have HB := n1_; clear n0_ n1_; (try clear hb); (try clear hb2); (try clear hk); (try clear hi)))
          repeat (go_quiet (first | (go_at_call 129; (with_reducible refine (ih kj22 (by have := HJ22.out; omega) ((rd_T81 l0_2 0).f0) ((rd_T81 l0_2 0).f1) _ _ ((rd_T81 l0_2 0).f2) a1 false _ ?side1 ?side2 A32.out).mono ?_); (case side1 => repeat (first | exact (Kd.C_below HR148_2.out HB.out) | (with_reducible refine Kd.C_alloc ?_ _) | (with_reducible refine Kd.C_drewN ?_ _) | (with_reducible refine Kd.C_drew ?_))); (case side2 => exact HC148_2.out); rintro e w41 ⟨rfl, hb⟩; have n0_ := Aside0.mk (blk_below (g := gb146) (o := .cells #[.int .i64 a0_0, .int .i64 a0_1, .slice (some ad148) l0_2.length c0_2] 81 (0, 0)) (by (with_reducible repeat (first | refine blk_drewN ?_ _ | refine blk_drew ?_ | refine blk_alloc ?_ _)); exact BK146.out) hb); have n1_ := Aside0.mk (below_step (by repeat (first | (with_reducible first | exact HB.out | apply below_alloc | apply pw_below_drewN | apply below_drew1 | refine below_set ?_ GE146.out) | exact HB.out)) hb); clear BK146; clear HB; have BK146 := n0_; have HB := n1_; clear n0_ n1_; (try clear hb); (try clear hb2); (try clear hk); (try clear hi))); try go_wp2_with (first | (go_at_call 129; (with_reducible refine (ih kj22 (by have := HJ22.out; omega) ((rd_T81 l0_2 0).f0) ((rd_T81 l0_2 0).f1) _ _ ((rd_T81 l0_2 0).f2) a1 false _ ?side1 ?side2 A32.out).mono ?_); (case side1 => repeat (first | exact (Kd.C_below HR148_2.out HB.out) | (with_reducible refine Kd.C_alloc ?_ _) | (with_reducible refine Kd.C_drewN ?_ _) | (with_reducible refine Kd.C_drew ?_))); (case side2 => exact HC148_2.out); rintro e w41 ⟨rfl, hb⟩; have n0_ := Aside0.mk (blk_below (g := gb146) (o := .cells #[.int .i64 a0_0, .int .i64 a0_1, .slice (some ad148) l0_2.length c0_2] 81 (0, 0)) (by (with_reducible repeat (first | refine blk_drewN ?_ _ | refine blk_drew ?_ | refine blk_alloc ?_ _)); exact BK146.out) hb); have n1_ := Aside0.mk (below_step (by repeat (first | (with_reducible first | exact HB.out | apply below_alloc | apply pw_below_drewN | apply below_drew1 | refine below_set ?_ GE146.out) | exact HB.out)) hb); clear BK146; clear HB; have BK146 := n0_; have HB := n1_; clear n0_ n1_; (try clear hb); (try clear hb2); (try clear hk); (try clear hi))))
          go_ret
          exact ⟨by first | rfl | (simp [errW_none, errW_some] <;> rfl) | (simp [*, errW_none, errW_some] <;> rfl), by repeat (first | (with_reducible first | exact HB.out | apply below_alloc | apply pw_below_drewN | apply below_drew1 | refine below_set ?_ GE146.out) | exact HB.out)⟩
        ·rw [if_neg c31] at H
         exact absurd H (by simp)
       ·rw [if_neg c30] at H
        have c30b0 : ((l0_2.length : Int) == 2) = false := beq_eq_false_iff_ne.mpr c30
        have c30b1 : ((l0_2.length : Int) != 2) = true := bne_iff_ne.mpr c30
        obtain rfl := Option.some.inj H
        have hcz42_0 : wc.cell? ⟨gb146, 0, none⟩ = some (.int .i64 a0_0) := (blk_cell BK146.out 0).trans rfl
        have hcz42_1 : wc.cell? ⟨gb146, 1, none⟩ = some (.int .i64 a0_1) := (blk_cell BK146.out 1).trans rfl
        have hcz42_2 : wc.cell? ⟨gb146, 2, none⟩ = some (.slice A0_2 l0_2.length c0_2) := (blk_cell BK146.out 2).trans rfl
        have hfz42_0 := blk_frozen BK146.out 0
        have hfz42_1 := blk_frozen BK146.out 1
        have hfz42_2 := blk_frozen BK146.out 2
        go_wp2
        repeat (go_quiet (fail); try go_wp2)
        go_ret
        exact ⟨by first | rfl | (simp [errW_none, errW_some] <;> rfl) | (simp [*, errW_none, errW_some] <;> rfl), by repeat (first | (with_reducible first | exact HB.out | apply below_alloc | apply pw_below_drewN | apply below_drew1 | refine below_set ?_ GE146.out) | exact HB.out)⟩
      ·rw [if_neg c29] at H
       have c29b0 : (a0_1 == 0) = false := beq_eq_false_iff_ne.mpr c29
       have c29b1 : (a0_1 != 0) = true := bne_iff_ne.mpr c29
       obtain rfl := Option.some.inj H
       have hcz43_0 : wc.cell? ⟨gb146, 0, none⟩ = some (.int .i64 a0_0) := (blk_cell BK146.out 0).trans rfl
       have hcz43_1 : wc.cell? ⟨gb146, 1, none⟩ = some (.int .i64 a0_1) := (blk_cell BK146.out 1).trans rfl
       have hcz43_2 : wc.cell? ⟨gb146, 2, none⟩ = some (.slice A0_2 l0_2.length c0_2) := (blk_cell BK146.out 2).trans rfl
       have hfz43_0 := blk_frozen BK146.out 0
       have hfz43_1 := blk_frozen BK146.out 1
       have hfz43_2 := blk_frozen BK146.out 2
       go_wp2
       repeat (go_quiet (fail); try go_wp2)
       go_ret
       exact ⟨by first | rfl | (simp [errW_none, errW_some] <;> rfl) | (simp [*, errW_none, errW_some] <;> rfl), by repeat (first | (with_reducible first | exact HB.out | apply below_alloc | apply pw_below_drewN | apply below_drew1 | refine below_set ?_ GE146.out) | exact HB.out)⟩
     ·replace c28 := Bool.eq_false_iff.mpr c28
      subst c28
      have H1 : (some false) = some r := by rw [if_neg (show ¬ (false = true) by decide)] at H; exact H
      clear H
      have H := H1
      clear H1
      obtain rfl := Option.some.inj H
      go_wp2
      repeat (go_quiet (fail); try go_wp2)
      go_ret
      exact ⟨by first | rfl | (simp [errW_none, errW_some] <;> rfl) | (simp [*, errW_none, errW_some] <;> rfl), by repeat (first | (with_reducible first | exact HB.out | apply below_alloc | apply pw_below_drewN | apply below_drew1 | refine below_set ?_ GE146.out) | exact HB.out)⟩
def spec_WordOK.f (k : Nat) (a0_0 : Int) (a0_1 : Int) (l0_2 : List (S81)) (a1 : Int) : Option (Bool) := (spec_l01In.f a1 1 6).bind fun t153 => (if t153 = true then ((spec_l05Left.f k a0_0 a0_1 l0_2 9).bind fun t154 => (if t154 ≥ 0 then ((spec_l05Right.f k a0_0 a0_1 l0_2 a1).bind fun t155 => (some t155)) else (some false))) else (some false))
set_option maxHeartbeats 8000000 in
set_option maxRecDepth 100000 in
theorem spec_WordOK.calls (k : Nat) (a0_0 : Int) (a0_1 : Int) (A0_2 : Option Addr) (c0_2 : Nat) (l0_2 : List (S81)) (a1 : Int) (r : Bool) (w : World) (hr0_2 : Kd.C k81 w A0_2 l0_2.length l0_2) (hc0_2 : l0_2.length ≤ c0_2) (h : spec_WordOK.f k a0_0 a0_1 l0_2 a1 = some r) :
  Calls Try.prog 100 #[.agg #[.int .i64 a0_0, .int .i64 a0_1, .slice A0_2 l0_2.length c0_2], .int .i64 a1] w fun e w' => e = .returned (.bool r) ∧ Below w.heap.size w w' := by
 have hu81 := Try.underlying81
 have HR0_2 := Aside0.mk hr0_2
 have HC0_2 := Aside0.mk hc0_2
 clear hr0_2 hc0_2
 have HB := Aside0.mk (Below.refl w.heap.size w)
 have H : ((spec_l01In.f a1 1 6).bind fun t153 => (if t153 = true then ((spec_l05Left.f k a0_0 a0_1 l0_2 9).bind fun t154 => (if t154 ≥ 0 then ((spec_l05Right.f k a0_0 a0_1 l0_2 a1).bind fun t155 => (some t155)) else (some false))) else (some false))) = some r := h
 clear h
 replace H := Option.bind_eq_some_iff.mp H
 obtain ⟨t153, A30, H⟩ := H
 replace H : (if t153 = true then ((spec_l05Left.f k a0_0 a0_1 l0_2 9).bind fun t154 => (if t154 ≥ 0 then ((spec_l05Right.f k a0_0 a0_1 l0_2 a1).bind fun t155 => (some t155)) else (some false))) else (some false)) = some r := H
 have A3 := Aside0.mk A30
 clear A30
 by_cases c4 : t153 = true
 ·subst c4
  have H1 : ((spec_l05Left.f k a0_0 a0_1 l0_2 9).bind fun t154 => (if t154 ≥ 0 then ((spec_l05Right.f k a0_0 a0_1 l0_2 a1).bind fun t155 => (some t155)) else (some false))) = some r := by rw [if_pos rfl] at H; exact H
  clear H
  have H := H1
  clear H1
  replace H := Option.bind_eq_some_iff.mp H
  obtain ⟨t154, A50, H⟩ := H
  replace H : (if t154 ≥ 0 then ((spec_l05Right.f k a0_0 a0_1 l0_2 a1).bind fun t155 => (some t155)) else (some false)) = some r := H
  have A5 := Aside0.mk A50
  clear A50
  by_cases c6 : t154 ≥ 0
  ·rw [if_pos c6] at H
   have c6b0 : decide (0 ≤ t154) = true := decide_eq_true c6
   clear c6
   replace H := Option.bind_eq_some_iff.mp H
   obtain ⟨t155, A70, H⟩ := H
   replace H : (some t155) = some r := H
   have A7 := Aside0.mk A70
   clear A70
   obtain rfl := Option.some.inj H
   go_enter Try.func100, Try.ntmps100
   go_wp2_with (first | ((with_reducible refine gate_dst (N := 2) rfl ?_); refine box_event ?hg (N := 2) ?hd (cs := #[.int .i64 a0_0, .int .i64 a0_1, .slice A0_2 l0_2.length c0_2]) (t := 81) ?hr ?_; (case hd => rfl); (case hg => rfl); (case hr => first | (go_simp; done) | (go_simp; rfl)); intro gb152 hg w8 hbox hb; have n0_ := Aside0.mk (below_step (by repeat (first | (with_reducible first | exact HB.out | apply below_alloc | apply pw_below_drewN | apply below_drew1) | exact HB.out)) hb); have n1_ := Aside0.mk (hbox); have n2_ := Aside0.mk ((by rw [hg]; exact (below_size (by repeat (first | (with_reducible first | exact HB.out | apply below_alloc | apply pw_below_drewN | apply below_drew1) | exact HB.out))) : w.heap.size ≤ gb152)); have n3_ := Aside0.mk ((by rw [hg]; exact (below_size (by repeat (first | (with_reducible first | exact HB.out | apply below_alloc | apply pw_below_drewN | apply below_drew1) | exact HB.out))) : w.heap.size ≤ gb152)); clear HB; have HB := n0_; have BK152 := n1_; have GW152 := n2_; have GE152 := n3_; clear n0_ n1_ n2_ n3_; clear hb hbox hg) | ((with_reducible refine gate_callee (f := 76) rfl ?_); refine goesL_ (some 6) rfl rfl Try.func76 (by kernel_rfl) rfl #[.int .i64 a1, .int .i64 1, .int .i64 6] rfl (by (try simp only [List.map_toArray, List.map_cons, List.map_nil]); first | done | rfl | (simp only [List.length_drop, List.length_take]; rfl)) ?_; (with_reducible refine (spec_l01In.calls a1 1 6 true _ A3.out).mono ?_); rintro e w' ⟨rfl, ⟨nd, rfl⟩⟩; refine ⟨_, rfl, ?_⟩; have hcz9_0 : w8.cell? ⟨gb152, 0, none⟩ = some (.int .i64 a0_0) := (blk_cell BK152.out 0).trans rfl; have hcz9_1 : w8.cell? ⟨gb152, 1, none⟩ = some (.int .i64 a0_1) := (blk_cell BK152.out 1).trans rfl; have hcz9_2 : w8.cell? ⟨gb152, 2, none⟩ = some (.slice A0_2 l0_2.length c0_2) := (blk_cell BK152.out 2).trans rfl; have hfz9_0 := blk_frozen BK152.out 0; have hfz9_1 := blk_frozen BK152.out 1; have hfz9_2 := blk_frozen BK152.out 2) | (go_at_call 128; (with_reducible refine (spec_l05Left.calls k a0_0 a0_1 _ _ l0_2 9 t154 _ ?side1 ?side2 A5.out).mono ?_); (case side1 => repeat (first | exact (Kd.C_below HR0_2.out (by repeat (first | (with_reducible first | exact HB.out | apply below_alloc | apply pw_below_drewN | apply below_drew1 | refine below_set ?_ GE152.out) | exact HB.out))) | (with_reducible refine Kd.C_alloc ?_ _) | (with_reducible refine Kd.C_drewN ?_ _) | (with_reducible refine Kd.C_drew ?_))); (case side2 => exact HC0_2.out); rintro e w10 ⟨rfl, hb⟩; have n0_ := Aside0.mk (blk_below (g := gb152) (o := .cells #[.int .i64 a0_0, .int .i64 a0_1, .slice A0_2 l0_2.length c0_2] 81 (0, 0)) (by (with_reducible repeat (first | refine blk_drewN ?_ _ | refine blk_drew ?_ | refine blk_alloc ?_ _)); exact BK152.out) hb); have n1_ := Aside0.mk (below_step (by repeat (first | (with_reducible first | exact HB.out | apply below_alloc | apply pw_below_drewN | apply below_drew1 | refine below_set ?_ GE152.out) | exact HB.out)) hb); clear BK152; clear HB; have BK152 := n0_; have HB := n1_; clear n0_ n1_; (try clear hb); (try clear hb2); (try clear hk); (try clear hi); have hcz11_0 : w10.cell? ⟨gb152, 0, none⟩ = some (.int .i64 a0_0) := (blk_cell BK152.out 0).trans rfl; have hcz11_1 : w10.cell? ⟨gb152, 1, none⟩ = some (.int .i64 a0_1) := (blk_cell BK152.out 1).trans rfl; have hcz11_2 : w10.cell? ⟨gb152, 2, none⟩ = some (.slice A0_2 l0_2.length c0_2) := (blk_cell BK152.out 2).trans rfl; have hfz11_0 := blk_frozen BK152.out 0; have hfz11_1 := blk_frozen BK152.out 1; have hfz11_2 := blk_frozen BK152.out 2) | (go_at_call 129; (with_reducible refine (spec_l05Right.calls k a0_0 a0_1 _ _ l0_2 a1 t155 _ ?side1 ?side2 A7.out).mono ?_); (case side1 => repeat (first | exact (Kd.C_below HR0_2.out HB.out) | (with_reducible refine Kd.C_alloc ?_ _) | (with_reducible refine Kd.C_drewN ?_ _) | (with_reducible refine Kd.C_drew ?_))); (case side2 => exact HC0_2.out); rintro e w12 ⟨rfl, hb⟩; have n0_ := Aside0.mk (blk_below (g := gb152) (o := .cells #[.int .i64 a0_0, .int .i64 a0_1, .slice A0_2 l0_2.length c0_2] 81 (0, 0)) (by (with_reducible repeat (first | refine blk_drewN ?_ _ | refine blk_drew ?_ | refine blk_alloc ?_ _)); exact BK152.out) hb); have n1_ := Aside0.mk (below_step (by repeat (first | (with_reducible first | exact HB.out | apply below_alloc | apply pw_below_drewN | apply below_drew1 | refine below_set ?_ GE152.out) | exact HB.out)) hb); clear BK152; clear HB; have BK152 := n0_; have HB := n1_; clear n0_ n1_; (try clear hb); (try clear hb2); (try clear hk); (try clear hi)))
   go_ret
   exact ⟨by first | rfl | (simp [errW_none, errW_some] <;> rfl) | (simp [*, errW_none, errW_some] <;> rfl), by repeat (first | (with_reducible first | exact HB.out | apply below_alloc | apply pw_below_drewN | apply below_drew1 | refine below_set ?_ GE152.out) | exact HB.out)⟩
  ·rw [if_neg c6] at H
   have c6b0 : decide (0 ≤ t154) = false := decide_eq_false c6
   clear c6
   obtain rfl := Option.some.inj H
   go_enter Try.func100, Try.ntmps100
   go_wp2_with (first | ((with_reducible refine gate_dst (N := 2) rfl ?_); refine box_event ?hg (N := 2) ?hd (cs := #[.int .i64 a0_0, .int .i64 a0_1, .slice A0_2 l0_2.length c0_2]) (t := 81) ?hr ?_; (case hd => rfl); (case hg => rfl); (case hr => first | (go_simp; done) | (go_simp; rfl)); intro gb152 hg w13 hbox hb; have n0_ := Aside0.mk (below_step (by repeat (first | (with_reducible first | exact HB.out | apply below_alloc | apply pw_below_drewN | apply below_drew1) | exact HB.out)) hb); have n1_ := Aside0.mk (hbox); have n2_ := Aside0.mk ((by rw [hg]; exact (below_size (by repeat (first | (with_reducible first | exact HB.out | apply below_alloc | apply pw_below_drewN | apply below_drew1) | exact HB.out))) : w.heap.size ≤ gb152)); have n3_ := Aside0.mk ((by rw [hg]; exact (below_size (by repeat (first | (with_reducible first | exact HB.out | apply below_alloc | apply pw_below_drewN | apply below_drew1) | exact HB.out))) : w.heap.size ≤ gb152)); clear HB; have HB := n0_; have BK152 := n1_; have GW152 := n2_; have GE152 := n3_; clear n0_ n1_ n2_ n3_; clear hb hbox hg) | ((with_reducible refine gate_callee (f := 76) rfl ?_); refine goesL_ (some 6) rfl rfl Try.func76 (by kernel_rfl) rfl #[.int .i64 a1, .int .i64 1, .int .i64 6] rfl (by (try simp only [List.map_toArray, List.map_cons, List.map_nil]); first | done | rfl | (simp only [List.length_drop, List.length_take]; rfl)) ?_; (with_reducible refine (spec_l01In.calls a1 1 6 true _ A3.out).mono ?_); rintro e w' ⟨rfl, ⟨nd, rfl⟩⟩; refine ⟨_, rfl, ?_⟩; have hcz14_0 : w13.cell? ⟨gb152, 0, none⟩ = some (.int .i64 a0_0) := (blk_cell BK152.out 0).trans rfl; have hcz14_1 : w13.cell? ⟨gb152, 1, none⟩ = some (.int .i64 a0_1) := (blk_cell BK152.out 1).trans rfl; have hcz14_2 : w13.cell? ⟨gb152, 2, none⟩ = some (.slice A0_2 l0_2.length c0_2) := (blk_cell BK152.out 2).trans rfl; have hfz14_0 := blk_frozen BK152.out 0; have hfz14_1 := blk_frozen BK152.out 1; have hfz14_2 := blk_frozen BK152.out 2) | (go_at_call 128; (with_reducible refine (spec_l05Left.calls k a0_0 a0_1 _ _ l0_2 9 t154 _ ?side1 ?side2 A5.out).mono ?_); (case side1 => repeat (first | exact (Kd.C_below HR0_2.out (by repeat (first | (with_reducible first | exact HB.out | apply below_alloc | apply pw_below_drewN | apply below_drew1 | refine below_set ?_ GE152.out) | exact HB.out))) | (with_reducible refine Kd.C_alloc ?_ _) | (with_reducible refine Kd.C_drewN ?_ _) | (with_reducible refine Kd.C_drew ?_))); (case side2 => exact HC0_2.out); rintro e w15 ⟨rfl, hb⟩; have n0_ := Aside0.mk (blk_below (g := gb152) (o := .cells #[.int .i64 a0_0, .int .i64 a0_1, .slice A0_2 l0_2.length c0_2] 81 (0, 0)) (by (with_reducible repeat (first | refine blk_drewN ?_ _ | refine blk_drew ?_ | refine blk_alloc ?_ _)); exact BK152.out) hb); have n1_ := Aside0.mk (below_step (by repeat (first | (with_reducible first | exact HB.out | apply below_alloc | apply pw_below_drewN | apply below_drew1 | refine below_set ?_ GE152.out) | exact HB.out)) hb); clear BK152; clear HB; have BK152 := n0_; have HB := n1_; clear n0_ n1_; (try clear hb); (try clear hb2); (try clear hk); (try clear hi)))
   go_ret
   exact ⟨by first | rfl | (simp [errW_none, errW_some] <;> rfl) | (simp [*, errW_none, errW_some] <;> rfl), by repeat (first | (with_reducible first | exact HB.out | apply below_alloc | apply pw_below_drewN | apply below_drew1 | refine below_set ?_ GE152.out) | exact HB.out)⟩
 ·replace c4 := Bool.eq_false_iff.mpr c4
  subst c4
  have H1 : (some false) = some r := by rw [if_neg (show ¬ (false = true) by decide)] at H; exact H
  clear H
  have H := H1
  clear H1
  obtain rfl := Option.some.inj H
  go_enter Try.func100, Try.ntmps100
  go_wp2_with (first | ((with_reducible refine gate_dst (N := 2) rfl ?_); refine box_event ?hg (N := 2) ?hd (cs := #[.int .i64 a0_0, .int .i64 a0_1, .slice A0_2 l0_2.length c0_2]) (t := 81) ?hr ?_; (case hd => rfl); (case hg => rfl); (case hr => first | (go_simp; done) | (go_simp; rfl)); intro gb152 hg w16 hbox hb; have n0_ := Aside0.mk (below_step (by repeat (first | (with_reducible first | exact HB.out | apply below_alloc | apply pw_below_drewN | apply below_drew1) | exact HB.out)) hb); have n1_ := Aside0.mk (hbox); have n2_ := Aside0.mk ((by rw [hg]; exact (below_size (by repeat (first | (with_reducible first | exact HB.out | apply below_alloc | apply pw_below_drewN | apply below_drew1) | exact HB.out))) : w.heap.size ≤ gb152)); have n3_ := Aside0.mk ((by rw [hg]; exact (below_size (by repeat (first | (with_reducible first | exact HB.out | apply below_alloc | apply pw_below_drewN | apply below_drew1) | exact HB.out))) : w.heap.size ≤ gb152)); clear HB; have HB := n0_; have BK152 := n1_; have GW152 := n2_; have GE152 := n3_; clear n0_ n1_ n2_ n3_; clear hb hbox hg) | ((with_reducible refine gate_callee (f := 76) rfl ?_); refine goesL_ (some 6) rfl rfl Try.func76 (by kernel_rfl) rfl #[.int .i64 a1, .int .i64 1, .int .i64 6] rfl (by (try simp only [List.map_toArray, List.map_cons, List.map_nil]); first | done | rfl | (simp only [List.length_drop, List.length_take]; rfl)) ?_; (with_reducible refine (spec_l01In.calls a1 1 6 false _ A3.out).mono ?_); rintro e w' ⟨rfl, ⟨nd, rfl⟩⟩; refine ⟨_, rfl, ?_⟩))
  go_ret
  exact ⟨by first | rfl | (simp [errW_none, errW_some] <;> rfl) | (simp [*, errW_none, errW_some] <;> rfl), by repeat (first | (with_reducible first | exact HB.out | apply below_alloc | apply pw_below_drewN | apply below_drew1 | refine below_set ?_ GE152.out) | exact HB.out)⟩
end Go.Proofs.Ytcmkkoggdcjceaa.PFnExactWordBits
end
section
namespace Go.Proofs.Ytcmkkoggdcjceaa.PFnExactWordBits
open Go.RowKit Go.Proofs.YtcmkkoggdcjceaaW.PrintWords Go.Proofs.YtcmkkoggdcjceaaW.PrintLast Go.Proofs.YtcmkkoggdcjceaaW.PrintMore
attribute [local go_sem] max2_int min2_int max_two min_two max_three min_three max_four min_four   -- for this text's walks alone
set_option linter.unusedVariables false
set_option linter.unusedSimpArgs false
def CP (kf : Nat) (x : S31) : Prop := spec_l05Copy.f kf x.f0 x.f1 x.f2 = some (x.f0, x.f1, x.f2)
def rcopF (kf : Nat) : List S31 → List S31 → S31 → Prop
 | x :: a, y :: b, c => (CP kf x ∧ CP kf y ∧ CP kf c ∧ CP kf ⟨6, 0, [x, y]⟩) ∧ rcopF kf a b ⟨5, 0, [⟨4, 0, [x, y]⟩, ⟨4, 0, [c, ⟨6, 0, [x, y]⟩]⟩]⟩
 | _, _, _ => True
def Cop (kf : Nat) (a b : List S31) : Prop := (∀ x, x ∈ a ∨ x ∈ b → CP kf x) ∧ rcopF kf a b ⟨2, 0, []⟩ ∧ CP kf (lessE a b)
open Classical in
noncomputable def sbitsF (kf n : Nat) : Nat → Int → Int → List S81 → Option (List S31)
 | 0, _, _, _ => none
 | f + 1, kind, num, kids => if kind = 1 then some (constB num n) else if kind = 2 then (if 0 ≤ num ∧ num ≤ 100 then some (varB num n n) else none) else if 3 ≤ kind ∧ kind ≤ 5 then twoKids kids (fun x y => (sbitsF kf n f x.f0 x.f1 x.f2).bind fun a => (sbitsF kf n f y.f0 y.f1 y.f2).bind fun b => if (a.length = n ∧ b.length = n) ∧ Cop kf a b then some (rnd kind (lessE a b) a b ⟨2, 0, []⟩ []) else none) else none
section
variable {ops : Array Oper} {Q : Exit → Act → World → Prop} {o : Oper} {b : Act} {W : World} {K : Act → World → Prop} {s s1 s2 : Tmp}
theorem scst_step {ok : Nat → Prop} {ts : Array TypeId} {N : Tmp} (hd : o.dst = some N) (hg : o.guard = none) (ho : o.op = .call { callee := .value (.func 84), args := #[.const (.int .i64 0)], argTypes := ts }) (hok : ∀ k, W.heap.size ≤ k → ok k)
  (hK : ∀ v W', EXv ok W' v (⟨2, 0, []⟩ : S31) → Below W.heap.size W W' → K (b.put o.dst v) W') :
  if Region.wanted o (yielded ops b.tmps) = true then Oper.wp Try.prog o b W K Q else K (b.put o.dst undef) W := by
 refine goes_ Try.func84 (by kernel_rfl) rfl #[.int .i64 0] (by unfold Region.wanted; rw [hg]) rfl ho (by simp only [List.map_toArray, List.map_cons, List.map_nil]; rfl) ?_
 refine (spec_l05Const.calls 0 2 0 [] W rfl).mono ?_
 rintro e w' ⟨v0, rfl, hr0, hb0⟩
 exact ⟨_, rfl, hK _ _ (EXv.of (b := 0) (Kd.R_V (Kd.R_mono (Kd.R_bound hr0) (fun k hk => hok k hk.2.1)))) hb0⟩
theorem sless_step {kf : Nat} {ok : Nat → Prop} {va vb : Value} {x y : List S31} {ts : Array TypeId} {N : Tmp} (hd : o.dst = some N) (hg : o.guard = none) (ho : o.op = .call { callee := .value (.func 90), args := #[.tmp s, .tmp s2], argTypes := ts }) (h1 : b.eval (.tmp s) = va) (h2 : b.eval (.tmp s2) = vb) (hl : x.length ≤ y.length) (hx : EXs ok W va x) (hy : EXs ok W vb y) (hok : ∀ k, W.heap.size ≤ k → ok k) (hcp : ∀ z, z ∈ x ∨ z ∈ y → CP kf z)
  (hK : ∀ v W', EXv ok W' v (lessE x y) → Below W.heap.size W W' → K (b.put o.dst v) W') :
  if Region.wanted o (yielded ops b.tmps) = true then Oper.wp Try.prog o b W K Q else K (b.put o.dst undef) W := by
 refine goes_ Try.func90 (by kernel_rfl) rfl #[va, vb] (by unfold Region.wanted; rw [hg]) rfl ho (by simp only [List.map_toArray, List.map_cons, List.map_nil, h1, h2]) ?_
 refine (sless_any kf ok va vb x y hl W hx hy hok hcp).mono ?_
 rintro e w' ⟨u, rfl, hu, hb⟩
 exact ⟨_, rfl, hK _ _ hu hb⟩
end
theorem EXc (ok : Nat → Prop) (W : World) (A : Option Addr) (c : Nat) : EXv ok W (.agg #[.int .i64 2, .int .i64 0, .slice A 0 c]) (⟨2, 0, []⟩ : S31) := ⟨A, c, rfl, Nat.zero_le _, fun _ _ => ⟨rfl, by simp, fun h => absurd h (by simp)⟩⟩
theorem R_emp (W : World) (base : Nat) (ok : Nat → Prop) (hb : base ≤ W.heap.size) (h : ok W.heap.size) : Kd.R k31 31 (W.alloc (.cells #[] 31)) base ok (.slice (some ⟨W.heap.size, 0, none⟩) 0 0) [] :=
 ⟨fun k hk => by
  have : W.heap.size = k := by simpa [Value.ownBlock] using hk
  rw [← this]
  exact h, OwnRow.lit W base (Reps.none _ _) hb (by simp)⟩
def wt101_25 : Bool × List (List Nat × List Nat) := (true, [([], []), ([], []), ([0, 1], [0, 1]), ([2], [2]), ([], []), ([], []), ([4, 5], [4, 5]), ([6], [6]), ([3, 7], [3, 7]), ([8], [8]), ([], []), ([10, 9, 9, 0, 1, 2, 3, 4, 5, 6, 7, 8, 9, 10], [9, 10])])
theorem wt101_25_tab : rtab .any (opsOf Try.f101 25) = wt101_25 := by kernel_rfl
def wt101_27 : Bool × List (List Nat × List Nat) := (true, [([], []), ([], []), ([0, 1], [0, 1]), ([2], [2]), ([3], [3]), ([], []), ([], []), ([5, 6], [5, 6]), ([7], [7]), ([8, 4], [8]), ([4, 9], [4, 9]), ([10, 9], [10]), ([], []), ([12, 11], [12]), ([], []), ([14, 13], [14]), ([13, 15], [13, 15]), ([16, 15], [16]), ([11, 17], [11, 17]), ([18, 17], [18]), ([19, 19, 0, 1, 2, 3, 4, 5, 6, 7, 8, 9, 10, 11, 12, 13, 14, 15, 16, 17, 18, 19], [19])])
theorem wt101_27_tab : rtab .any (opsOf Try.f101 27) = wt101_27 := by kernel_rfl
def wt101_29 : Bool × List (List Nat × List Nat) := (true, [([], []), ([], []), ([], []), ([1, 2], [1, 2]), ([3], [3]), ([], []), ([], []), ([5, 6], [5, 6]), ([7], [7]), ([4, 8], [4, 8]), ([9], [9]), ([10], [10]), ([0, 11, 10], [0, 11]), ([12, 12, 0, 1, 2, 3, 4, 5, 6, 7, 8, 9, 10, 11, 12], [0, 12])])
theorem wt101_29_tab : rtab .any (opsOf Try.f101 29) = wt101_29 := by kernel_rfl
def wt101_31 : Bool × List (List Nat × List Nat) := (true, [([], []), ([], []), ([1], [1]), ([], []), ([], []), ([3, 4], [3, 4]), ([5], [5]), ([], []), ([], []), ([7, 8], [7, 8]), ([9], [9]), ([2, 6, 10], [2, 6, 10]), ([11, 2], [11]), ([12], [12]), ([0, 13, 12], [0, 13]), ([14, 14, 0, 1, 2, 3, 4, 5, 6, 7, 8, 9, 10, 11, 12, 13, 14], [0, 14])])
theorem wt101_31_tab : rtab .any (opsOf Try.f101 31) = wt101_31 := by kernel_rfl
set_option maxHeartbeats 8000000 in
set_option maxRecDepth 100000 in
theorem sbits_any (kf n : Nat) (hn : n ≤ 6) : ∀ (f : Nat) (kind num : Int) (A : Option Addr) (c : Nat) (kids : List S81) (r : List S31) (w : World), Kd.C k81 w A kids.length kids → kids.length ≤ c → sbitsF kf n f kind num kids = some r →
  Calls Try.prog 101 #[.agg #[.int .i64 kind, .int .i64 num, .slice A kids.length c], .int .i64 n] w fun e w' => ∃ v, e = .returned v ∧ EXs (fun k => w.heap.size ≤ k) w' v r ∧ Below w.heap.size w w' := by
 intro f
 induction f with
 | zero => intro kind num A c kids r w _ _ h; simp [sbitsF] at h
 | succ f ih =>
  intro kind num A c kids r w hC hc h
  have hu31 := Try.underlying31
  have hu81 := Try.underlying81
  have hu29 := Try.underlying29
  have HC := Aside0.mk hC
  have IH := Aside0.mk ih
  have hmaxk : kids.length ≤ 9223372036854775807 := Kd.C_max hC
  clear hC ih
  rw [sbitsF] at h
  obtain ⟨g, hg⟩ : ∃ g, w.heap.size = g := ⟨_, rfl⟩
  go_enter Try.func101, Try.ntmps101
  go_upto_region 1 with fail
  have hb2 : Below w.heap.size w (w.alloc (.cells #[.int .i64 kind, .int .i64 num, .slice A kids.length c] 81)) := below_alloc (Below.refl _ _) _
  have k1 : (w.alloc (.cells #[.int .i64 kind, .int .i64 num, .slice A kids.length c] 81)).heap[g]? = some (.cells #[.int .i64 kind, .int .i64 num, .slice A kids.length c] 81 (0, 0)) := by rw [← hg]; exact blk_new w _
  generalize w.alloc (.cells #[.int .i64 kind, .int .i64 num, .slice A kids.length c] 81) = wq at hb2 k1 ⊢
  have y0 := (blk_cell k1 0).trans (show _ = some (.int .i64 kind) from rfl)
  have HGE := Aside0.mk (Nat.le_of_eq hg)
  have HGQ := Aside0.mk (show g < wq.heap.size from blk_lt k1)
  have HG := Aside0.mk k1
  have HB := Aside0.mk hb2
  clear hg hb2 k1
  go_upto_region 2 with fail
  have hR9 : Kd.R k31 31 (wq.alloc (.cells #[] 31)) w.heap.size (fun _ => True) (.slice (some ⟨wq.heap.size, 0, none⟩) 0 0) [] := R_emp wq w.heap.size _ HB.out.size trivial
  have hN : Kd.N k31 31 (wq.alloc (.cells #[] 31)) w.heap.size (fun k => k = wq.heap.size) (.slice (some ⟨wq.heap.size, 0, none⟩) 0 0) [] := Kd.R_N (R_emp wq w.heap.size _ HB.out.size rfl)
  have hb3 : Below wq.heap.size wq (wq.alloc (.cells #[] 31)) := below_alloc (Below.refl _ _) _
  have hsz : (wq.alloc (.cells #[] 31)).heap.size = wq.heap.size + 1 := by simp
  obtain ⟨gu, hgu⟩ : ∃ q, wq.heap.size = q := ⟨_, rfl⟩
  have n0_ := Aside0.mk (HB.out.trans (hb3.mono HB.out.size))
  have n1_ := Aside0.mk (blk_below HG.out hb3)
  have n2_ := Aside0.mk (show g < gu by rw [← hgu]; exact HGQ.out)
  have n3_ := Aside0.mk (show gu < (wq.alloc (.cells #[] 31)).heap.size by rw [hsz, hgu]; exact Nat.lt_succ_self _)
  clear HB HG HGQ hb3 hsz y0
  have HB := n0_
  have HG := n1_
  have HGU := n2_
  have HUW := n3_
  have HN := Aside0.mk hN
  have HR9 := Aside0.mk hR9
  clear hR9
  clear n0_ n1_ n2_ n3_ hN
  rw [hgu] at HN HR9 ⊢
  clear hgu
  obtain ⟨u0, hu0⟩ : ∃ q, Value.slice (some ⟨gu, 0, none⟩) 0 0 = q := ⟨_, rfl⟩
  have HU := Aside0.mk (show u0.ownBlock = some gu by rw [← hu0]; rfl)
  rw [hu0] at HN HR9 ⊢
  clear hu0
  generalize wq.alloc (.cells #[] 31) = wp at HB HG HUW HN HR9 ⊢
  clear wq
  have y0 := (blk_cell HG.out 0).trans (show _ = some (.int .i64 kind) from rfl)
  have y1 := (blk_cell HG.out 1).trans (show _ = some (.int .i64 num) from rfl)
  by_cases h1 : kind = 1
  ·rw [if_pos h1] at h
   have t1 : (kind == 1) = true := beq_iff_eq.mpr h1
   clear h1
   cases h
   have HR0 := Aside0.mk (show Kd.R k31 31 wp w.heap.size (fun _ => True) u0 [] from HR9.out)
   go_wp2
   go_loopg [5, 6] n (fun gg v5 v6 wr => ∃ (i : Nat), v6 = .int .i64 i ∧ i ≤ n ∧ n - i ≤ gg ∧ Aside0 (Kd.R k31 31 wr w.heap.size (fun _ => True) v5 (constB num i)) ∧ Aside0 (Below w.heap.size w wr) ∧ Aside0 (wr.heap[g]? = some (.cells #[.int .i64 kind, .int .i64 num, .slice A kids.length c] 81 (0, 0))))
   case atStart => exact ⟨0, rfl, Nat.zero_le _, by omega, HR0, HB, HG⟩
   case round =>
    clear HB HG y0 y1 HR0 HN
    obtain ⟨i, rfl, hi, hgk, HL, HB, HG⟩ := hrel
    by_cases hlt : i < n
    ·have hltz : (i : Int) < (n : Int) := by omega
     have y1 := (blk_cell HG.out 1).trans (show _ = some (.int .i64 num) from rfl)
     have ew : IntKind.i64.wrap ((i : Int) + 1) = ((i + 1 : Nat) : Int) := IntWalk.i64_in _ (by omega)
     have eu : IntKind.u64.wrap (i : Int) = (i : Int) := by unfold IntKind.wrap; simp [IntKind.signed, IntKind.bits]; omega
     have h0z : (0 : Int) ≤ (i : Int) := by omega
     obtain ⟨ji, hji⟩ : ∃ q, shr .i64 num (i : Int) = q := ⟨_, rfl⟩
     have HJ := Aside0.mk hji
     have hj1 : num / 2 ^ min (i : Int).toNat 64 = ji := hji
     have hj2 : num / 2 ^ min i 64 = ji := hji
     have hj3 : num / 2 ^ i = ji := by rw [← hj2, Nat.min_eq_left (by omega)]
     clear hji
     go_wp2_with (first
      | (go_at_call 84; refine (spec_l05Const.calls _ 2 (Go.bits .and .i64 ji 1) [] _ rfl).mono ?_; rintro e w8 ⟨v8, rfl, hr8, hb8⟩; have n0_ := Aside0.mk (Kd.R_elder' HL.out (Kd.R_base hr8) hb8); have n1_ := Aside0.mk (Kd.R_lower (Kd.R_new' hr8 (Kd.R_lt HL.out)) HB.out.size); have n2_ := Aside0.mk (HB.out.trans (hb8.mono HB.out.size)); have n3_ := Aside0.mk (blk_below HG.out hb8); clear HL HB HG hr8 hb8 y1; have HL := n0_; have HO8 := n1_; have HB := n2_; have HG := n3_; clear n0_ n1_ n2_ n3_; obtain ⟨Ao, co, eo⟩ := Kd.R_slice HO8.out; subst eo)
      | ((with_reducible refine gate_builtin (b := .append) (xs := #[.tmp 24, .tmp 32]) rfl ?_); at_builtin; refine Kd.R_append k31 (w0 := w) w.heap.size rfl (.tmp 24) (.tmp 32) 29 31 (.agg #[.int .i64 0, .int .i64 0, .slice none 0 0]) 40 rfl Try.underlying29 inf31 rfl (by decide) (by decide) u5 (constB num i) (⟨2, Go.bits .and .i64 ji 1, []⟩ : S31) [.int .i64 2, .int .i64 (Go.bits .and .i64 ji 1), .slice Ao 0 co] (fun _ => True) (fun k_ => ((fun _ => True)) k_ ∧ some k_ ≠ (u5 : Value).ownBlock) rfl rfl ?aP (fun _ hk => hk) ?aF ?aO ?aB ?aS ?aL ?_; (case aP => exact k31_mkM _ _ _ (⟨2, Go.bits .and .i64 ji 1, []⟩ : S31) (Kd.R_mono (HO8.out) (fun k_ hk => ⟨trivial, hk.2⟩))); (case aF => exact fun _ _ => trivial); (case aO => exact Kd.R_mono HL.out (fun _ _ => trivial)); (case aB => exact HB.out); (case aS => exact HB.out.size); (case aL => rw [show (constB num i).length = i by simp [constB]]; omega); intro v7 w7 ho hb hg2 hat; have HL7 := Aside0.mk (show Kd.R k31 31 w7 w.heap.size (fun _ => True) v7 (constB num (i + 1)) by rw [show constB num (i + 1) = constB num i ++ [⟨2, Go.bits .and .i64 (shr .i64 num (i : Int)) 1, []⟩] by simp [constB, List.range_succ], show shr .i64 num (i : Int) = ji from HJ.out]; exact ho); have HB7 := Aside0.mk hb; have HG7 := Aside0.mk (blk_grown HG.out hg2 (Kd.R_ne HL.out HG.out (by decide))); clear ho hb hg2 hat HL HB HG HO8))
     go_roundg (gk - 1)
     case measure => omega
     case rel => exact ⟨i + 1, rfl, by omega, by omega, HL7, HB7, HG7⟩
    ·obtain rfl : i = n := by omega
     go_wp2
     go_ret
     exact ⟨_, rfl, EXs.of (b := 0) (Kd.R_V (Kd.R_mono (ok' := fun k => w.heap.size ≤ k) (Kd.R_bound HL.out) (fun k_ hk_ => hk_.2.1))), HB.out⟩
  rw [if_neg h1] at h
  have t1 : (kind == 1) = false := beq_eq_false_iff_ne.mpr h1
  clear h1
  by_cases h2 : kind = 2
  ·rw [if_pos h2] at h
   have t2 : (kind == 2) = true := beq_iff_eq.mpr h2
   clear h2
   by_cases hnum : 0 ≤ num ∧ num ≤ 100
   rotate_left
   ·rw [if_neg hnum] at h; cases h
   rw [if_pos hnum] at h
   cases h
   have HR0 := Aside0.mk (show Kd.R k31 31 wp w.heap.size (fun _ => True) u0 [] from HR9.out)
   go_wp2
   go_loopg [5, 7] n (fun gg v5 v7 wr => ∃ (i : Nat), v7 = .int .i64 i ∧ i ≤ n ∧ n - i ≤ gg ∧ Aside0 (Kd.R k31 31 wr w.heap.size (fun _ => True) v5 (varB num n i)) ∧ Aside0 (Below w.heap.size w wr) ∧ Aside0 (wr.heap[g]? = some (.cells #[.int .i64 kind, .int .i64 num, .slice A kids.length c] 81 (0, 0))))
   case atStart => exact ⟨0, rfl, Nat.zero_le _, by omega, HR0, HB, HG⟩
   case round =>
    clear HB HG y0 y1 HR0 HN
    obtain ⟨i, rfl, hi, hgk, HL, HB, HG⟩ := hrel
    by_cases hlt : i < n
    ·have hltz : (i : Int) < (n : Int) := by omega
     have y1 := (blk_cell HG.out 1).trans (show _ = some (.int .i64 num) from rfl)
     obtain ⟨e1, e2⟩ := mulb num n i hnum.1 hnum.2 hn (by omega)
     have ew : IntKind.i64.wrap ((i : Int) + 1) = ((i + 1 : Nat) : Int) := IntWalk.i64_in _ (by omega)
     go_wp2_with (first
      | ((with_reducible refine gate_builtin (b := .append) (xs := #[.tmp 42, .tmp 50]) rfl ?_); at_builtin; refine Kd.R_append k31 (w0 := w) w.heap.size rfl (.tmp 42) (.tmp 50) 29 31 (.agg #[.int .i64 0, .int .i64 0, .slice none 0 0]) 40 rfl Try.underlying29 inf31 rfl (by decide) (by decide) u5 (varB num n i) (⟨1, num * n + i, []⟩ : S31) [.int .i64 1, .int .i64 (num * n + i), .slice none 0 0] (fun _ => True) (fun _ => False) rfl rfl ?aP (fun _ hk => hk.elim) ?aF ?aO ?aB ?aS ?aL ?_; (case aP => exact k31_mkM _ _ _ (⟨1, num * n + i, []⟩ : S31) (Kd.R_nil _ _ _ _ _)); (case aF => exact fun _ _ => trivial); (case aO => exact HL.out); (case aB => exact HB.out); (case aS => exact HB.out.size); (case aL => rw [show (varB num n i).length = i by simp [varB]]; omega); intro v7 w7 ho hb hg2 hat; have HL7 := Aside0.mk (show Kd.R k31 31 w7 w.heap.size (fun _ => True) v7 (varB num n (i + 1)) by rw [show varB num n (i + 1) = varB num n i ++ [⟨1, num * n + i, []⟩] by simp [varB, List.range_succ]]; exact ho); have HB7 := Aside0.mk hb; have HG7 := Aside0.mk (blk_grown HG.out hg2 (Kd.R_ne HL.out HG.out (by decide))); clear ho hb hg2 hat HL HB HG y1))
     go_roundg (gk - 1)
     case measure => omega
     case rel => exact ⟨i + 1, rfl, by omega, by omega, HL7, HB7, HG7⟩
    ·obtain rfl : i = n := by omega
     go_wp2
     go_ret
     exact ⟨_, rfl, EXs.of (b := 0) (Kd.R_V (Kd.R_mono (ok' := fun k => w.heap.size ≤ k) (Kd.R_bound HL.out) (fun k_ hk_ => hk_.2.1))), HB.out⟩
  clear HR9
  rw [if_neg h2] at h
  have t2 : (kind == 2) = false := beq_eq_false_iff_ne.mpr h2
  clear h2
  rcases Classical.em (¬ (3 ≤ kind ∧ kind ≤ 5)) with h35 | h35
  ·rw [if_neg h35] at h; cases h
  replace h35 := Classical.not_not.1 h35
  rw [if_pos h35] at h
  obtain ⟨x, y, rfl⟩ : ∃ x y, kids = [x, y] := by
   match kids, h with
   | [x, y], _ => exact ⟨x, y, rfl⟩
  rw [twoKids] at h
  obtain ⟨a, hwa, h⟩ := Option.bind_eq_some_iff.1 h
  obtain ⟨b, hwb, h⟩ := Option.bind_eq_some_iff.1 h
  rcases Classical.em (¬ ((a.length = n ∧ b.length = n) ∧ Cop kf a b)) with hab | hab
  ·rw [if_neg hab] at h; cases h
  replace hab := Classical.not_not.1 hab
  rw [if_pos hab] at h
  have HH := Aside0.mk (Option.some.inj h)
  have HAB := Aside0.mk hab.1
  have HCO := Aside0.mk hab.2
  have H35 := Aside0.mk h35
  clear h hab h35
  obtain ⟨ad, Ax, cx, ea, hx0, hx1, hx2, hlx, hCx⟩ := at_T81 HC.out 0 (by decide) (show (0 : Int) < 2 by decide)
  obtain ⟨ad', Ay, cy, ea', hy0, hy1, hy2, hly, hCy⟩ := at_T81 HC.out 1 (by decide) (show (1 : Int) < 2 by decide)
  subst ea
  cases ea'
  rw [show rd_T81 [x, y] 0 = x from rfl] at hx0 hx1 hx2 hlx hCx
  rw [show rd_T81 [x, y] 1 = y from rfl] at hy0 hy1 hy2 hly hCy
  have cm : ∀ (W : World) {p : Addr} {v : Value}, Below w.heap.size w W → w.cell? p = some v → W.cell? p = some v := fun W p v hW hx => (hW.cell (World.block_lt_of_cell? _ _ hx)).trans hx
  have HX := Aside0.mk (And.intro hlx (And.intro hCx hwa))
  have HY := Aside0.mk (And.intro hly (And.intro hCy hwb))
  have HYC := Aside0.mk (And.intro hy0 (And.intro hy1 hy2))
  have CM := Aside0.mk cm
  replace hx0 : wp.cell? ad = some (.int .i64 x.f0) := cm wp HB.out hx0
  replace hx1 : wp.cell? ⟨ad.block, ad.off + 1, none⟩ = some (.int .i64 x.f1) := cm wp HB.out hx1
  replace hx2 : wp.cell? ⟨ad.block, ad.off + 2, none⟩ = some (.slice Ax x.f2.length cx) := cm wp HB.out hx2
  have y2 := (blk_cell HG.out 2).trans (show _ = some (.slice (some ad) 2 c) from rfl)
  clear hlx hCx hly hCy hwa hwb hy0 hy1 hy2 cm y1
  go_upto_region 15 with fail
  clear y0
  go_upto_region 16 with (go_at_call 101; refine (IH.out x.f0 x.f1 Ax cx x.f2 a _ (Kd.C_below HX.out.2.1 HB.out) HX.out.1 HX.out.2.2).mono ?_; rintro e w6 ⟨va, rfl, hva, hb⟩; have HA := Aside0.mk hva; have HA6 := Aside0.mk hb.size; have n0_ := Aside0.mk (HB.out.trans (hb.mono HB.out.size)); have n1_ := Aside0.mk (blk_below HG.out hb); have n2_ := Aside0.mk (Kd.N_below HN.out hb); clear HB HG HN HX hva hb hx0 hx1 hx2 y2; have HB := n0_; have HG := n1_; have HN := n2_; clear n0_ n1_ n2_)
  have hy0 : w6.cell? (ad.add 3) = some (.int .i64 y.f0) := CM.out w6 HB.out HYC.out.1
  have hy0b : w6.cell? ⟨ad.block, ad.off + 3, none⟩ = some (.int .i64 y.f0) := hy0
  have hy0c : w6.cell? (ad.add (1 * 3)) = some (.int .i64 y.f0) := hy0
  have hy1 : w6.cell? ⟨ad.block, ad.off + 3 + 1, none⟩ = some (.int .i64 y.f1) := CM.out w6 HB.out HYC.out.2.1
  have hy2 : w6.cell? ⟨ad.block, ad.off + 3 + 2, none⟩ = some (.slice Ay y.f2.length cy) := CM.out w6 HB.out HYC.out.2.2
  have y2 := (blk_cell HG.out 2).trans (show _ = some (.slice (some ad) 2 c) from rfl)
  go_upto_region 17 with (go_at_call 101; refine (IH.out y.f0 y.f1 Ay cy y.f2 b _ (Kd.C_below HY.out.2.1 HB.out) HY.out.1 HY.out.2.2).mono ?_; rintro e w7 ⟨vb, rfl, hvb, hb⟩; have HBb := Aside0.mk (EXs.mono (ok' := fun k => wp.heap.size ≤ k ∧ k < w7.heap.size) (EXs.bound hvb) (fun k hk => ⟨Nat.le_trans HA6.out hk.1, hk.2⟩)); have n3_ := Aside0.mk (EXs.mono (ok' := fun k => wp.heap.size ≤ k ∧ k < w7.heap.size) (EXs.bound (EXs.move HA.out hb)) (fun k hk => hk)); have n0_ := Aside0.mk (HB.out.trans (hb.mono HB.out.size)); have n1_ := Aside0.mk (blk_below HG.out hb); have n2_ := Aside0.mk (Kd.N_below HN.out hb); have H67 := Aside0.mk (Nat.le_trans HA6.out hb.size); clear HB HG HN HY HYC CM HA HA6 hvb hb hy0 hy0b hy0c hy1 hy2 y2; have HB := n0_; have HG := n1_; have HN := n2_; have HA := n3_; clear n0_ n1_ n2_ n3_)
  obtain ⟨okA, hokA⟩ : ∃ q : Nat → Prop, q = fun k => wp.heap.size ≤ k ∧ k < w7.heap.size := ⟨_, rfl⟩
  rw [← hokA] at HA HBb
  have HOK := Aside0.mk (show ∀ k, okA k → wp.heap.size ≤ k ∧ k < w7.heap.size from fun k hk => by rw [hokA] at hk; exact hk)
  clear hokA
  obtain ⟨s1, hs1⟩ : ∃ q, w7.heap.size = q := ⟨_, rfl⟩
  have HS1 := Aside0.mk (Nat.le_of_eq hs1.symm)
  rw [hs1] at HOK H67
  clear hs1
  refine seq_x [some 65, some 10, none] 150 1 [VP.ex (fun _ => True) (⟨2, 0, []⟩ : S31)] rfl rfl (by kernel_rfl) rfl ⟨?_, trivial⟩ ?_
  ·intro bq W B hW hB hb hd K hK hK2 hK3; exact scst_step rfl rfl rfl (fun k hk => ⟨trivial, fun hb_ => Nat.lt_irrefl _ (Nat.lt_of_lt_of_le (hB k hb_).2 hk)⟩) (fun v W' hv hb => hK v W' hv hb)
  ·intro vals F W2 B hF hW hBB hV _
   obtain ⟨A0_, c0_, e0_, -, -⟩ : EXv (fun k => True ∧ ¬ B k) W2 (vals 65) (⟨2, 0, []⟩ : S31) := hV 0 65 (of_decide_eq_true (by kernel_rfl)) rfl
   rw [hF]
   clear hF hV hBB
   simp only [List.take, fillA, Act.put, List.setIfInBounds_toArray, List.set_cons_zero, List.set_cons_succ, e0_]
   refine al_ev rfl rfl (fun Wa hba hbb => ?_)
   simp only [Act.put, List.setIfInBounds_toArray, List.set_cons_zero, List.set_cons_succ]
   obtain ⟨g10, hg10⟩ : ∃ q, W2.heap.size = q := ⟨_, rfl⟩
   rw [hg10] at hba
   simp only [hg10]
   refine sto_ev (g := g10) (ok := fun _ => True) (x := (⟨2, 0, []⟩ : S31)) rfl rfl rfl rfl (EXc _ _ A0_ c0_) hba (fun wy A10 c10 k_g10 _ hw_ => ?_)
   have hb_ : Below w7.heap.size w7 wy := hw_.below w7 (hW.trans (hbb.mono hW.size)) (by rw [← hg10]; exact hW.size)
   have HS10 := Aside0.mk (show s1 ≤ g10 by have h_ := hW.size; have h2_ := HS1.out; omega)
   have mHB_ := Aside0.mk (HB.out.trans (hb_.mono HB.out.size))
   have mHG_ := Aside0.mk (blk_below HG.out hb_)
   have mHN_ := Aside0.mk (Kd.N_below HN.out hb_)
   have mHA_ := Aside0.mk (EXs.move HA.out hb_)
   have mHBb_ := Aside0.mk (EXs.move HBb.out hb_)
   clear HB HG HN HA HBb hW hbb hba hw_ e0_ hg10
   have HB := mHB_
   have HG := mHG_
   have HN := mHN_
   have HA := mHA_
   have HBb := mHBb_
   clear mHB_ mHG_ mHN_ mHA_ mHBb_ hb_
   have K10 := Aside0.mk k_g10
   clear k_g10
   have HS2 := Aside0.mk (show g10 + 1 ≤ wy.heap.size from blk_lt K10.out)
   go_upto_region 18 with fail
   refine seq_x [some 66, some 11, none] 150 1 [VP.ex (fun _ => True) (⟨2, 0, []⟩ : S31)] rfl rfl (by kernel_rfl) rfl ⟨?_, trivial⟩ ?_
   ·intro bq W B hW hB hb hd K hK hK2 hK3; exact scst_step rfl rfl rfl (fun k hk => ⟨trivial, fun hb_ => Nat.lt_irrefl _ (Nat.lt_of_lt_of_le (hB k hb_).2 hk)⟩) (fun v W' hv hb => hK v W' hv hb)
   ·intro vals F W2 B hF hW hBB hV _
    obtain ⟨A0_, c0_, e0_, -, -⟩ : EXv (fun k => True ∧ ¬ B k) W2 (vals 66) (⟨2, 0, []⟩ : S31) := hV 0 66 (of_decide_eq_true (by kernel_rfl)) rfl
    rw [hF]
    clear hF hV hBB
    simp only [List.take, fillA, Act.put, List.setIfInBounds_toArray, List.set_cons_zero, List.set_cons_succ, e0_]
    refine al_ev rfl rfl (fun Wa hba hbb => ?_)
    simp only [Act.put, List.setIfInBounds_toArray, List.set_cons_zero, List.set_cons_succ]
    obtain ⟨g11, hg11⟩ : ∃ q, W2.heap.size = q := ⟨_, rfl⟩
    rw [hg11] at hba
    simp only [hg11]
    refine sto_ev (g := g11) (ok := fun _ => True) (x := (⟨2, 0, []⟩ : S31)) rfl rfl rfl rfl (EXc _ _ A0_ c0_) hba (fun wz A11 c11 k_g11 _ hw_ => ?_)
    have hb_ : Below wy.heap.size wy wz := hw_.below wy (hW.trans (hbb.mono hW.size)) (by rw [← hg11]; exact hW.size)
    have HS11 := Aside0.mk (show g10 + 1 ≤ g11 by have h_ := hW.size; have h2_ := HS2.out; omega)
    have mHB_ := Aside0.mk (HB.out.trans (hb_.mono HB.out.size))
    have mHG_ := Aside0.mk (blk_below HG.out hb_)
    have mHN_ := Aside0.mk (Kd.N_below HN.out hb_)
    have mHA_ := Aside0.mk (EXs.move HA.out hb_)
    have mHBb_ := Aside0.mk (EXs.move HBb.out hb_)
    have mK10_ := Aside0.mk (blk_below K10.out hb_)
    clear HB HG HN HA HBb K10 hW hbb hba hw_ e0_ hg11
    have HB := mHB_
    have HG := mHG_
    have HN := mHN_
    have HA := mHA_
    have HBb := mHBb_
    have K10 := mK10_
    clear mHB_ mHG_ mHN_ mHA_ mHBb_ mK10_ hb_
    have K11 := Aside0.mk k_g11
    clear k_g11
    have l1 := HUW.out
    have l2 := HGU.out
    have l3 := H67.out
    have l4 := HS10.out
    have l5 := HS11.out
    have l6 := HGE.out
    have hg10 : g10 < wz.heap.size := blk_lt K10.out
    have hg11 : g11 < wz.heap.size := blk_lt K11.out
    obtain ⟨S, hS⟩ : ∃ S : Nat → Prop, S = fun k => k = g ∨ k = g10 ∨ k = g11 := ⟨_, rfl⟩
    have hSk : ∀ k, S k → k = g ∨ k = g10 ∨ k = g11 := fun k hk => by rw [hS] at hk; exact hk
    have hfp : ∀ k, okA k → FP w S u0 k := by
     intro k hk
     obtain ⟨q1, q2⟩ := HOK.out k hk
     refine ⟨⟨by omega, fun hs => ?_⟩, fun e => ?_⟩
     ·rcases hSk k hs with e | e | e <;> omega
     ·rw [HU.out] at e
      injection e with e
      omega
    have h0 : St w S wz u0 [] va vb a b := ⟨HB.out, fun k hk => (by
     rcases hSk k hk with e | e | e <;> constructor <;> omega), Kd.N_mono HN.out (fun k hk => (by
     refine ⟨by omega, fun hs => ?_⟩
     rcases hSk k hs with e | e | e <;> omega)), EXs.mono HA.out hfp, EXs.mono HBb.out hfp⟩
    have HS := Aside0.mk h0
    have HSG := Aside0.mk (show S g10 ∧ S g11 ∧ S g by rw [hS]; exact ⟨.inr (.inl rfl), .inr (.inr rfl), .inl rfl⟩)
    have H10 := Aside0.mk (show Bx w S wz u0 g10 A10 c10 (⟨2, 0, []⟩ : S31) from ⟨K10.out, EXc _ _ _ _⟩)
    have H11 := Aside0.mk (show Bx w S wz u0 g11 A11 c11 (⟨2, 0, []⟩ : S31) from ⟨K11.out, EXc _ _ _ _⟩)
    have HNE := Aside0.mk (show g10 ≠ g11 ∧ g ≠ g10 ∧ g ≠ g11 by omega)
    clear l1 l2 l3 l4 l5 l6 hg10 hg11 hS hSk hfp h0 HB HN HA HBb K10 K11 HS10 HS11 HUW HGU H67 HGE HOK HU okA
    obtain ⟨Aa, ca, eva, la, -⟩ := HS.out.a
    subst eva
    obtain ⟨Ab, cb, evb, lb, -⟩ := HS.out.b
    subst evb
    rcases (show kind = 3 ∨ kind = 4 ∨ kind = 5 by have := H35.out; omega) with e35 | e35 | e35
    ·subst e35
     clear t1 t2 H35
     clear H11
     have HRC := Aside0.mk (show rcopF kf (a.drop 0) (b.drop 0) (⟨2, 0, []⟩ : S31) from HCO.out.2.1)
     have y0 := (blk_cell HG.out 0).trans (show _ = some (.int .i64 3) from rfl)
     go_upto_region 21 with fail
     clear y0
     go_wp2
     go_loopg [5, 12] n (fun gg v5 v12 wr => ∃ (i : Nat) (cr : S31) (A10 : Option Addr) (c10 : Nat) (out : List S31), v12 = .int .i64 i ∧ i ≤ n ∧ n - i ≤ gg ∧ Aside0 (out.length = i) ∧ Aside0 (rnd 3 (lessE a b) (a.drop i) (b.drop i) cr out = r) ∧ Aside0 (rcopF kf (a.drop i) (b.drop i) cr) ∧ Aside0 (Bx w S wr v5 g10 A10 c10 cr) ∧ Aside0 (St w S wr v5 out (.slice Aa a.length ca) (.slice Ab b.length cb) a b) ∧ Aside0 (wr.heap[g]? = some (.cells #[.int .i64 3, .int .i64 num, .slice (some ad) 2 c] 81 (0, 0))))
     case atStart => exact ⟨0, (⟨2, 0, []⟩ : S31), A10, c10, [], rfl, Nat.zero_le _, by omega, ⟨rfl⟩, HH, HRC, H10, HS, HG⟩
     case round =>
      clear HS H10 HG HH HRC
      obtain ⟨i, cr, A10, c10, out, rfl, hi, hgk, HLN, HE, HRC, H10, HS, HG⟩ := hrel
      by_cases hlt : i < n
      ·have hltz : (i : Int) < (n : Int) := by omega
       have h0z : (0 : Int) ≤ (i : Int) := by omega
       have hia : i < a.length := by have := HAB.out; omega
       have hib : i < b.length := by have := HAB.out; omega
       have hma : a.length ≤ 9223372036854775807 := by have := HAB.out; omega
       have hmb : b.length ≤ 9223372036854775807 := by have := HAB.out; omega
       have ew : IntKind.i64.wrap ((i : Int) + 1) = ((i + 1 : Nat) : Int) := IntWalk.i64_in _ (by omega)
       have hE := HE.out
       rw [List.drop_eq_getElem_cons hia, List.drop_eq_getElem_cons hib, rnd] at hE
       rw [if_pos rfl] at hE
       have HE2 := Aside0.mk hE
       clear hE HE
       have y0 := (blk_cell HG.out 0).trans (show _ = some (.int .i64 3) from rfl)
       have hRC := HRC.out
       rw [List.drop_eq_getElem_cons hia, List.drop_eq_getElem_cons hib, rcopF] at hRC
       have HCP := Aside0.mk hRC.1
       have HR2 := Aside0.mk hRC.2
       clear hRC HRC
       go_upto_region 25 with fail
       clear y0
       obtain ⟨ada, ca_, Ax, cx, exa, xa0, xa1, xa2, xva⟩ := HS.out.a.at i hia
       cases exa
       obtain ⟨adb, cb_, Ay, cy, exb, xb0, xb1, xb2, xvb⟩ := HS.out.b.at i hib
       cases exb
       obtain ⟨ok2, hok2e⟩ : ∃ q, q = FP w S u5 := ⟨_, rfl⟩
       have hok2 : ∀ k, wr.drew.heap.size ≤ k → ok2 k := fun k hk => by rw [hok2e]; exact FP.fresh HS.out k hk
       have cm : ∀ (W : World) {p : Addr} {v : Value}, Below wr.drew.heap.size wr.drew W → wr.cell? p = some v → W.cell? p = some v := fun W p v hW hx => (hW.cell (World.block_lt_of_cell? _ _ hx)).trans hx
       have ca0 := fun (W : World) (hW : Below wr.drew.heap.size wr.drew W) => cm W hW xa0
       have ca1 := fun (W : World) (hW : Below wr.drew.heap.size wr.drew W) => cm W hW xa1
       have ca2 := fun (W : World) (hW : Below wr.drew.heap.size wr.drew W) => cm W hW xa2
       rw [← hok2e] at xva
       have eva := EXv.move (W1 := wr.drew) xva (below_drew (Below.refl _ _))
       have cb0 := fun (W : World) (hW : Below wr.drew.heap.size wr.drew W) => cm W hW xb0
       have cb1 := fun (W : World) (hW : Below wr.drew.heap.size wr.drew W) => cm W hW xb1
       have cb2 := fun (W : World) (hW : Below wr.drew.heap.size wr.drew W) => cm W hW xb2
       rw [← hok2e] at xvb
       have evb := EXv.move (W1 := wr.drew) xvb (below_drew (Below.refl _ _))
       clear xa0 xa1 xa2 xb0 xb1 xb2 xva xvb
       refine any_x [some 80, some 81, some 82, some 83, some 84, some 85, some 86, some 87, some 88, some 89, some 13, none] [some 80, some 81, some 82, some 83, some 84, some 85, some 86, some 87, some 88, some 89, some 13, none] [] 150 11 [0, 0, 3, 7, 0, 0, 48, 112, 255, 511, 0, 2047] [VP.eq (.slice (some ada) a.length ca), VP.eq (.int .i64 (i : Int)), VP.eq (.pointer (some (ada.add (i * 3)))), VP.ex ok2 (a[i]), VP.eq (.slice (some adb) b.length cb), VP.eq (.int .i64 (i : Int)), VP.eq (.pointer (some (adb.add (i * 3)))), VP.ex ok2 (b[i]), VP.exs ok2 ([a[i], b[i]]), VP.ex ok2 ((⟨6, 0, [a[i], b[i]]⟩ : S31)), VP.bxT wr.drew.heap.size] (fun j hj => by cases hj) rfl wt101_25_tab rfl rfl (by kernel_rfl) rfl ⟨?_, ?_, ?_, ?_, ?_, ?_, ?_, ?_, ?_, ?_, ?_, trivial⟩ ?_
       ·intro bq W B hW hB hb hd K hK hK2 hK3; exact mv_step rfl rfl (hb 8) (hK _ _ rfl (Below.refl _ _))
       ·intro bq W B hW hB hb hd K hK hK2 hK3; exact mv_step rfl rfl (hb 12) (hK _ _ rfl (Below.refl _ _))
       ·intro bq W B hW hB hb hd K hK hK2 hK3; exact ix_step rfl rfl (hd 0 80) (hd 1 81) hia hma (hK _ _ rfl (Below.refl _ _))
       ·intro bq W B hW hB hb hd K hK hK2 hK3; exact ld_step rfl rfl (hd 2 82) (ca0 W hW) (ca1 W hW) (ca2 W hW) (hK _ _ (EXv.old eva hW hB) (Below.refl _ _))
       ·intro bq W B hW hB hb hd K hK hK2 hK3; exact mv_step rfl rfl (hb 9) (hK _ _ rfl (Below.refl _ _))
       ·intro bq W B hW hB hb hd K hK hK2 hK3; exact mv_step rfl rfl (hb 12) (hK _ _ rfl (Below.refl _ _))
       ·intro bq W B hW hB hb hd K hK hK2 hK3; exact ix_step rfl rfl (hd 4 84) (hd 5 85) hib hmb (hK _ _ rfl (Below.refl _ _))
       ·intro bq W B hW hB hb hd K hK hK2 hK3; exact ld_step rfl rfl (hd 6 86) (cb0 W hW) (cb1 W hW) (cb2 W hW) (hK _ _ (EXv.old evb hW hB) (Below.refl _ _))
       ·intro bq W B hW hB hb hd K hK hK2 hK3; exact bs2_step rfl rfl rfl (hd 3 83) (hd 7 87) (fresh_ hok2 hW hB _ (Nat.le_refl _)) (fun v W' hv hb => hK v W' hv hb)
       ·intro bq W B hW hB hb hd K hK hK2 hK3; exact sx_step rfl rfl rfl (hd 8 88) (fresh_ hok2 hW hB) (fun v W' hv hb => hK v W' hv hb)
       ·intro bq W B hW hB hb hd K hK hK2 hK3; exact al_x rfl rfl (fun W' h hb hl => hK2 _ W' ⟨W.heap.size, _, _, _, rfl, hW.size, .inr rfl, h⟩ hb hl rfl)
       ·intro vals F W B hF hW hBB hV _
        obtain ⟨g13, u0_, u1_, u2_, e13, hn13, hB13, hk13⟩ := hV 10 13 (of_decide_eq_true (by kernel_rfl)) rfl
        have hX : EXv (fun k => ok2 k ∧ ¬ B k) W (vals 89) (⟨6, 0, [a[i], b[i]]⟩ : S31) := hV 9 89 (of_decide_eq_true (by kernel_rfl)) rfl
        rw [hF]
        simp only [List.take, fillA, Act.put, List.setIfInBounds_toArray, List.set_cons_zero, List.set_cons_succ, e13]
        clear hF hV hBB e13
        refine sto_ev (g := g13) (ok := fun k => ok2 k ∧ ¬ B k) (x := (⟨6, 0, [a[i], b[i]]⟩ : S31)) rfl rfl rfl rfl hX hk13 (fun W' A13 c13 hk13' hv13 hw13 => ?_)
        have hbw : Below wr.heap.size wr W' := ((below_drew1 (Below.refl wr.heap.size wr)).trans hW).trans (show Below wr.heap.size W W' from Wr.from (w0 := wr.drew) hw13 hW hn13)
        have H13 : Aside0 (Bx w S W' u5 g13 A13 c13 (⟨6, 0, [a[i], b[i]]⟩ : S31)) := ⟨⟨hk13', EXv.mono (EXv.kept hv13 hw13.kept (fun k hk e => hk.2 (by rw [e]; exact hB13))) (fun k hk => by rw [← hok2e]; exact hk.1)⟩⟩
        have HF13 := Aside0.mk (FP.fresh HS.out g13 hn13)
        have HN13 := Aside0.mk (show ¬ g10 = g13 from fun e => Nat.lt_irrefl _ (Nat.lt_of_lt_of_le (blk_lt H10.out.blk) (by rw [e]; exact hn13)))
        have q0_ := Aside0.mk (HS.out.below hbw)
        have q1_ := Aside0.mk (H10.out.below hbw)
        have q3_ := Aside0.mk (blk_below HG.out hbw)
        clear HS H10 HG hk13 hk13' hv13 hw13 hX hW hbw hok2 ca0 ca1 ca2 cb0 cb1 cb2 eva evb cm hok2e hn13 hB13
        have HS := q0_
        have H10 := q1_
        have HG := q3_
        clear q0_ q1_ q3_
        generalize W' = wr at HS H10 HG H13 ⊢
        go_upto_region 26 with fail
        obtain ⟨ok2, hok2e⟩ : ∃ q, q = FP w S u5 := ⟨_, rfl⟩
        have hok2 : ∀ k, wr.heap.size ≤ k → ok2 k := fun k hk => by rw [hok2e]; exact FP.fresh HS.out k hk
        have cm : ∀ (W : World) {p : Addr} {v : Value}, Below wr.heap.size wr W → wr.cell? p = some v → W.cell? p = some v := fun W p v hW hx => (hW.cell (World.block_lt_of_cell? _ _ hx)).trans hx
        have c130 := fun (W : World) (hW : Below wr.heap.size wr W) => cm W hW ((blk_cell H13.out.blk 0).trans (show _ = some (.int .i64 ((⟨6, 0, [a[i], b[i]]⟩ : S31)).f0) from rfl))
        have c131 := fun (W : World) (hW : Below wr.heap.size wr W) => cm W hW ((blk_cell H13.out.blk 1).trans (show _ = some (.int .i64 ((⟨6, 0, [a[i], b[i]]⟩ : S31)).f1) from rfl))
        have c132 := fun (W : World) (hW : Below wr.heap.size wr W) => cm W hW ((blk_cell H13.out.blk 2).trans (show _ = some (.slice A13 ((⟨6, 0, [a[i], b[i]]⟩ : S31)).f2.length c13) from rfl))
        have ec13 := EXv.move (W1 := wr) H13.out.val (Below.refl _ _)
        have c100 := fun (W : World) (hW : Below wr.heap.size wr W) => cm W hW ((blk_cell H10.out.blk 0).trans (show _ = some (.int .i64 (cr).f0) from rfl))
        have c101 := fun (W : World) (hW : Below wr.heap.size wr W) => cm W hW ((blk_cell H10.out.blk 1).trans (show _ = some (.int .i64 (cr).f1) from rfl))
        have c102 := fun (W : World) (hW : Below wr.heap.size wr W) => cm W hW ((blk_cell H10.out.blk 2).trans (show _ = some (.slice A10 (cr).f2.length c10) from rfl))
        have ec10 := EXv.move (W1 := wr) H10.out.val (Below.refl _ _)
        rw [← hok2e] at ec13
        rw [← hok2e] at ec10
        refine seq_x [some 90, some 91, some 92, some 93, some 94, some 95, some 96, some 5] 150 6 [VP.eq (u5), VP.ex ok2 ((⟨6, 0, [a[i], b[i]]⟩ : S31)), VP.ex ok2 (cr), VP.exs ok2 ([(⟨6, 0, [a[i], b[i]]⟩ : S31), cr]), VP.ex ok2 ((⟨6, 0, [⟨6, 0, [a[i], b[i]]⟩, cr]⟩ : S31)), VP.exs ok2 ([(⟨6, 0, [⟨6, 0, [a[i], b[i]]⟩, cr]⟩ : S31)])] rfl rfl (by kernel_rfl) rfl ⟨?_, ?_, ?_, ?_, ?_, ?_, trivial⟩ ?_
        ·intro bq W B hW hB hb hd K hK hK2 hK3; exact mv_step rfl rfl (hb 5) (hK _ _ rfl (Below.refl _ _))
        ·intro bq W B hW hB hb hd K hK hK2 hK3; exact ld_step rfl rfl (hb 13) (c130 W hW) (c131 W hW) (c132 W hW) (hK _ _ (EXv.old ec13 hW hB) (Below.refl _ _))
        ·intro bq W B hW hB hb hd K hK hK2 hK3; exact ld_step rfl rfl (hb 10) (c100 W hW) (c101 W hW) (c102 W hW) (hK _ _ (EXv.old ec10 hW hB) (Below.refl _ _))
        ·intro bq W B hW hB hb hd K hK hK2 hK3; exact bs2_step rfl rfl rfl (hd 1 91) (hd 2 92) (fresh_ hok2 hW hB _ (Nat.le_refl _)) (fun v W' hv hb => hK v W' hv hb)
        ·intro bq W B hW hB hb hd K hK hK2 hK3; exact sx_step rfl rfl rfl (hd 3 93) (fresh_ hok2 hW hB) (fun v W' hv hb => hK v W' hv hb)
        ·intro bq W B hW hB hb hd K hK hK2 hK3; exact bs1_step rfl rfl rfl (hd 4 94) (fresh_ hok2 hW hB _ (Nat.le_refl _)) (fun v W' hv hb => hK v W' hv hb)
        ·intro vals F W B hF hW hBB hV _
         have hL : vals 90 = u5 := hV 0 90 (of_decide_eq_true (by kernel_rfl)) rfl
         have hX : EXs (fun k => ok2 k ∧ ¬ B k) W (vals 95) [(⟨6, 0, [⟨6, 0, [a[i], b[i]]⟩, cr]⟩ : S31)] := hV 5 95 (of_decide_eq_true (by kernel_rfl)) rfl
         have hbw : Below wr.heap.size wr W := hW
         have HX := Aside0.mk (EXs.mono (ok' := FP w S u5) hX (fun k hk => by rw [← hok2e]; exact hk.1))
         have q0_ := Aside0.mk (HS.out.below hbw)
         have q3_ := Aside0.mk (blk_below HG.out hbw)
         have qH10_ := Aside0.mk (H10.out.below hbw)
         have qH13_ := Aside0.mk (H13.out.below hbw)
         rw [hF]
         clear hF hV hBB hW hbw hX hok2 c130 c131 c132 ec13 c100 c101 c102 ec10 cm HS HG H10 H13
         simp only [hok2e] at *
         clear hok2e
         simp only [List.take, fillA, Act.put, List.setIfInBounds_toArray, List.set_cons_zero, List.set_cons_succ, hL]
         clear hL
         refine app_ev (w := w) (S := S) (out := out) rfl rfl rfl HX.out q0_.out (by have := HLN.out; have := hn; omega) (fun u6 w6 h6 hg6 hat6 => ?_)
         have HS := Aside0.mk h6
         have HG := Aside0.mk (blk_grown q3_.out hg6 (Kd.N_ne q0_.out.row q3_.out (by decide)))
         have H10 := Aside0.mk (qH10_.out.after (q0_.out.away HSG.out.1) hg6 hat6)
         have H13 := Aside0.mk (qH13_.out.after HF13.out.2 hg6 hat6)
         clear h6 hg6 hat6 q0_ q3_ HX qH10_ qH13_
         simp only [Act.put, List.setIfInBounds_toArray, List.set_cons_zero, List.set_cons_succ]
         go_upto_region 27 with fail
         generalize w6 = wr at HS H10 HG H13 ⊢
         generalize u6 = u5 at HS H10 H13 ⊢
         obtain ⟨ada, ca_, Ax, cx, exa, xa0, xa1, xa2, xva⟩ := HS.out.a.at i hia
         cases exa
         obtain ⟨adb, cb_, Ay, cy, exb, xb0, xb1, xb2, xvb⟩ := HS.out.b.at i hib
         cases exb
         obtain ⟨ok2, hok2e⟩ : ∃ q, q = FP w S u5 := ⟨_, rfl⟩
         have hok2 : ∀ k, wr.drew.heap.size ≤ k → ok2 k := fun k hk => by rw [hok2e]; exact FP.fresh HS.out k hk
         have cm : ∀ (W : World) {p : Addr} {v : Value}, Below wr.drew.heap.size wr.drew W → wr.cell? p = some v → W.cell? p = some v := fun W p v hW hx => (hW.cell (World.block_lt_of_cell? _ _ hx)).trans hx
         have c130 := fun (W : World) (hW : Below wr.drew.heap.size wr.drew W) => cm W hW ((blk_cell H13.out.blk 0).trans (show _ = some (.int .i64 ((⟨6, 0, [a[i], b[i]]⟩ : S31)).f0) from rfl))
         have c131 := fun (W : World) (hW : Below wr.drew.heap.size wr.drew W) => cm W hW ((blk_cell H13.out.blk 1).trans (show _ = some (.int .i64 ((⟨6, 0, [a[i], b[i]]⟩ : S31)).f1) from rfl))
         have c132 := fun (W : World) (hW : Below wr.drew.heap.size wr.drew W) => cm W hW ((blk_cell H13.out.blk 2).trans (show _ = some (.slice A13 ((⟨6, 0, [a[i], b[i]]⟩ : S31)).f2.length c13) from rfl))
         have ec13 := EXv.move (W1 := wr.drew) H13.out.val (below_drew (Below.refl _ _))
         have c100 := fun (W : World) (hW : Below wr.drew.heap.size wr.drew W) => cm W hW ((blk_cell H10.out.blk 0).trans (show _ = some (.int .i64 (cr).f0) from rfl))
         have c101 := fun (W : World) (hW : Below wr.drew.heap.size wr.drew W) => cm W hW ((blk_cell H10.out.blk 1).trans (show _ = some (.int .i64 (cr).f1) from rfl))
         have c102 := fun (W : World) (hW : Below wr.drew.heap.size wr.drew W) => cm W hW ((blk_cell H10.out.blk 2).trans (show _ = some (.slice A10 (cr).f2.length c10) from rfl))
         have ec10 := EXv.move (W1 := wr.drew) H10.out.val (below_drew (Below.refl _ _))
         rw [← hok2e] at ec13
         rw [← hok2e] at ec10
         have ca0 := fun (W : World) (hW : Below wr.drew.heap.size wr.drew W) => cm W hW xa0
         have ca1 := fun (W : World) (hW : Below wr.drew.heap.size wr.drew W) => cm W hW xa1
         have ca2 := fun (W : World) (hW : Below wr.drew.heap.size wr.drew W) => cm W hW xa2
         rw [← hok2e] at xva
         have eva := EXv.move (W1 := wr.drew) xva (below_drew (Below.refl _ _))
         have cb0 := fun (W : World) (hW : Below wr.drew.heap.size wr.drew W) => cm W hW xb0
         have cb1 := fun (W : World) (hW : Below wr.drew.heap.size wr.drew W) => cm W hW xb1
         have cb2 := fun (W : World) (hW : Below wr.drew.heap.size wr.drew W) => cm W hW xb2
         rw [← hok2e] at xvb
         have evb := EXv.move (W1 := wr.drew) xvb (below_drew (Below.refl _ _))
         clear xa0 xa1 xa2 xb0 xb1 xb2 xva xvb
         refine any_x [some 97, some 98, some 99, some 100, some 101, some 102, some 103, some 104, some 105, some 106, some 107, some 108, some 109, some 110, some 111, some 112, some 113, some 114, some 115, some 116, none] [some 97, some 98, some 99, some 100, some 101, some 102, some 103, some 104, some 105, some 106, some 107, some 108, some 109, some 110, some 111, some 112, some 113, some 114, some 115, some 116, none] [] 150 20 [0, 0, 3, 7, 15, 0, 0, 96, 224, 511, 1023, 2047, 0, 8191, 0, 32767, 65535, 131071, 262143, 524287, 1048575] [VP.eq (.slice (some ada) a.length ca), VP.eq (.int .i64 (i : Int)), VP.eq (.pointer (some (ada.add (i * 3)))), VP.ex ok2 (a[i]), VP.ex ok2 (a[i]), VP.eq (.slice (some adb) b.length cb), VP.eq (.int .i64 (i : Int)), VP.eq (.pointer (some (adb.add (i * 3)))), VP.ex ok2 (b[i]), VP.ex ok2 (b[i]), VP.exs ok2 ([a[i], b[i]]), VP.ex ok2 ((⟨4, 0, [a[i], b[i]]⟩ : S31)), VP.ex ok2 (cr), VP.ex ok2 (cr), VP.ex ok2 ((⟨6, 0, [a[i], b[i]]⟩ : S31)), VP.ex ok2 ((⟨6, 0, [a[i], b[i]]⟩ : S31)), VP.exs ok2 ([cr, (⟨6, 0, [a[i], b[i]]⟩ : S31)]), VP.ex ok2 ((⟨4, 0, [cr, ⟨6, 0, [a[i], b[i]]⟩]⟩ : S31)), VP.exs ok2 ([(⟨4, 0, [a[i], b[i]]⟩ : S31), (⟨4, 0, [cr, ⟨6, 0, [a[i], b[i]]⟩]⟩ : S31)]), VP.ex ok2 ((⟨5, 0, [⟨4, 0, [a[i], b[i]]⟩, ⟨4, 0, [cr, ⟨6, 0, [a[i], b[i]]⟩]⟩]⟩ : S31))] (fun j hj => by cases hj) rfl wt101_27_tab rfl rfl (by kernel_rfl) rfl ⟨?_, ?_, ?_, ?_, ?_, ?_, ?_, ?_, ?_, ?_, ?_, ?_, ?_, ?_, ?_, ?_, ?_, ?_, ?_, ?_, trivial⟩ ?_
         ·intro bq W B hW hB hb hd K hK hK2 hK3; exact mv_step rfl rfl (hb 8) (hK _ _ rfl (Below.refl _ _))
         ·intro bq W B hW hB hb hd K hK hK2 hK3; exact mv_step rfl rfl (hb 12) (hK _ _ rfl (Below.refl _ _))
         ·intro bq W B hW hB hb hd K hK hK2 hK3; exact ix_step rfl rfl (hd 0 97) (hd 1 98) hia hma (hK _ _ rfl (Below.refl _ _))
         ·intro bq W B hW hB hb hd K hK hK2 hK3; exact ld_step rfl rfl (hd 2 99) (ca0 W hW) (ca1 W hW) (ca2 W hW) (hK _ _ (EXv.old eva hW hB) (Below.refl _ _))
         ·intro bq W B hW hB hb hd K hK hK2 hK3; exact cp_step rfl rfl rfl (hd 3 100) HCP.out.1 (fresh_ hok2 hW hB) (fun v W' hv hb => hK v W' hv hb)
         ·intro bq W B hW hB hb hd K hK hK2 hK3; exact mv_step rfl rfl (hb 9) (hK _ _ rfl (Below.refl _ _))
         ·intro bq W B hW hB hb hd K hK hK2 hK3; exact mv_step rfl rfl (hb 12) (hK _ _ rfl (Below.refl _ _))
         ·intro bq W B hW hB hb hd K hK hK2 hK3; exact ix_step rfl rfl (hd 5 102) (hd 6 103) hib hmb (hK _ _ rfl (Below.refl _ _))
         ·intro bq W B hW hB hb hd K hK hK2 hK3; exact ld_step rfl rfl (hd 7 104) (cb0 W hW) (cb1 W hW) (cb2 W hW) (hK _ _ (EXv.old evb hW hB) (Below.refl _ _))
         ·intro bq W B hW hB hb hd K hK hK2 hK3; exact cp_step rfl rfl rfl (hd 8 105) HCP.out.2.1 (fresh_ hok2 hW hB) (fun v W' hv hb => hK v W' hv hb)
         ·intro bq W B hW hB hb hd K hK hK2 hK3; exact bs2_step rfl rfl rfl (hd 4 101) (hd 9 106) (fresh_ hok2 hW hB _ (Nat.le_refl _)) (fun v W' hv hb => hK v W' hv hb)
         ·intro bq W B hW hB hb hd K hK hK2 hK3; exact sx_step rfl rfl rfl (hd 10 107) (fresh_ hok2 hW hB) (fun v W' hv hb => hK v W' hv hb)
         ·intro bq W B hW hB hb hd K hK hK2 hK3; exact ld_step rfl rfl (hb 10) (c100 W hW) (c101 W hW) (c102 W hW) (hK _ _ (EXv.old ec10 hW hB) (Below.refl _ _))
         ·intro bq W B hW hB hb hd K hK hK2 hK3; exact cp_step rfl rfl rfl (hd 12 109) HCP.out.2.2.1 (fresh_ hok2 hW hB) (fun v W' hv hb => hK v W' hv hb)
         ·intro bq W B hW hB hb hd K hK hK2 hK3; exact ld_step rfl rfl (hb 13) (c130 W hW) (c131 W hW) (c132 W hW) (hK _ _ (EXv.old ec13 hW hB) (Below.refl _ _))
         ·intro bq W B hW hB hb hd K hK hK2 hK3; exact cp_step rfl rfl rfl (hd 14 111) HCP.out.2.2.2 (fresh_ hok2 hW hB) (fun v W' hv hb => hK v W' hv hb)
         ·intro bq W B hW hB hb hd K hK hK2 hK3; exact bs2_step rfl rfl rfl (hd 13 110) (hd 15 112) (fresh_ hok2 hW hB _ (Nat.le_refl _)) (fun v W' hv hb => hK v W' hv hb)
         ·intro bq W B hW hB hb hd K hK hK2 hK3; exact sx_step rfl rfl rfl (hd 16 113) (fresh_ hok2 hW hB) (fun v W' hv hb => hK v W' hv hb)
         ·intro bq W B hW hB hb hd K hK hK2 hK3; exact bs2_step rfl rfl rfl (hd 11 108) (hd 17 114) (fresh_ hok2 hW hB _ (Nat.le_refl _)) (fun v W' hv hb => hK v W' hv hb)
         ·intro bq W B hW hB hb hd K hK hK2 hK3; exact sx_step rfl rfl rfl (hd 18 115) (fresh_ hok2 hW hB) (fun v W' hv hb => hK v W' hv hb)
         ·intro vals F W B hF hW hBB hV _
          have hX : EXv (fun k => ok2 k ∧ ¬ B k) W (vals 116) (⟨5, 0, [⟨4, 0, [a[i], b[i]]⟩, ⟨4, 0, [cr, ⟨6, 0, [a[i], b[i]]⟩]⟩]⟩ : S31) := hV 19 116 (of_decide_eq_true (by kernel_rfl)) rfl
          have hbw : Below wr.heap.size wr W := ((below_drew1 (Below.refl wr.heap.size wr)).trans hW)
          have HX := Aside0.mk (EXv.mono (ok' := FP w S u5) hX (fun k hk => by rw [← hok2e]; exact hk.1))
          have q0_ := Aside0.mk (HS.out.below hbw)
          have q1_ := Aside0.mk (H10.out.below hbw)
          have q3_ := Aside0.mk (blk_below HG.out hbw)
          rw [hF]
          clear hF hV hBB hW hbw hX hok2 hok2e ca0 ca1 ca2 cb0 cb1 cb2 eva evb cm c130 c131 c132 ec13 c100 c101 c102 ec10 HS H10 HG H13
          simp only [List.take, fillA, Act.put, List.setIfInBounds_toArray, List.set_cons_zero, List.set_cons_succ]
          refine sto_ev (g := g10) (ok := FP w S u5) (x := (⟨5, 0, [⟨4, 0, [a[i], b[i]]⟩, ⟨4, 0, [cr, ⟨6, 0, [a[i], b[i]]⟩]⟩]⟩ : S31)) rfl rfl rfl rfl HX.out q1_.out.blk (fun w7 A8 c8 hk6 hv6 hw6 => ?_)
          have HS := Aside0.mk (q0_.out.write HSG.out.1 hw6)
          have H10 := Aside0.mk (Bx.made hk6 hv6 HSG.out.1 hw6)
          have HG := Aside0.mk (blk_kept q3_.out hw6.kept HNE.out.2.1)
          clear q0_ q1_ q3_ HX hk6 hv6 hw6
          go_wp2
          go_roundg (gk - 1)
          case measure => omega
          case rel => exact ⟨i + 1, (⟨5, 0, [⟨4, 0, [a[i], b[i]]⟩, ⟨4, 0, [cr, ⟨6, 0, [a[i], b[i]]⟩]⟩]⟩ : S31), A8, c8, out ++ [(⟨6, 0, [⟨6, 0, [a[i], b[i]]⟩, cr]⟩ : S31)], rfl, by omega, by omega, ⟨by rw [List.length_append, HLN.out]; rfl⟩, HE2, HR2, H10, HS, HG⟩
      ·obtain rfl : i = n := by omega
       have hE := HE.out
       rw [show a.drop i = [] from List.drop_eq_nil_of_le (by have := HAB.out; omega), rnd_nil] at hE
       subst hE
       go_wp2
       go_ret
       exact ⟨_, rfl, EXs.mono (EXs.of (b := 0) (Kd.N_V HS.out.row)) (fun k hk => hk.1), HS.out.base⟩
    ·subst e35
     clear t1 t2 H35
     clear H10 H11
     have y0 := (blk_cell HG.out 0).trans (show _ = some (.int .i64 4) from rfl)
     go_upto_region 21 with fail
     clear y0
     go_wp2
     go_loopg [5, 12] n (fun gg v5 v12 wr => ∃ (i : Nat) (out : List S31), v12 = .int .i64 i ∧ i ≤ n ∧ n - i ≤ gg ∧ Aside0 (out.length = i) ∧ Aside0 (rnd 4 (lessE a b) (a.drop i) (b.drop i) (⟨2, 0, []⟩ : S31) out = r) ∧ Aside0 (St w S wr v5 out (.slice Aa a.length ca) (.slice Ab b.length cb) a b) ∧ Aside0 (wr.heap[g]? = some (.cells #[.int .i64 4, .int .i64 num, .slice (some ad) 2 c] 81 (0, 0))))
     case atStart => exact ⟨0, [], rfl, Nat.zero_le _, by omega, ⟨rfl⟩, HH, HS, HG⟩
     case round =>
      clear HS HG HH
      obtain ⟨i, out, rfl, hi, hgk, HLN, HE, HS, HG⟩ := hrel
      by_cases hlt : i < n
      ·have hltz : (i : Int) < (n : Int) := by omega
       have h0z : (0 : Int) ≤ (i : Int) := by omega
       have hia : i < a.length := by have := HAB.out; omega
       have hib : i < b.length := by have := HAB.out; omega
       have hma : a.length ≤ 9223372036854775807 := by have := HAB.out; omega
       have hmb : b.length ≤ 9223372036854775807 := by have := HAB.out; omega
       have ew : IntKind.i64.wrap ((i : Int) + 1) = ((i + 1 : Nat) : Int) := IntWalk.i64_in _ (by omega)
       have hE := HE.out
       rw [List.drop_eq_getElem_cons hia, List.drop_eq_getElem_cons hib, rnd] at hE
       rw [if_neg (by decide), if_pos rfl] at hE
       have HE2 := Aside0.mk hE
       clear hE HE
       have y0 := (blk_cell HG.out 0).trans (show _ = some (.int .i64 4) from rfl)
       go_upto_region 29 with fail
       clear y0
       obtain ⟨ada, ca_, Ax, cx, exa, xa0, xa1, xa2, xva⟩ := HS.out.a.at i hia
       cases exa
       obtain ⟨adb, cb_, Ay, cy, exb, xb0, xb1, xb2, xvb⟩ := HS.out.b.at i hib
       cases exb
       obtain ⟨ok2, hok2e⟩ : ∃ q, q = FP w S u5 := ⟨_, rfl⟩
       have hok2 : ∀ k, wr.drew.heap.size ≤ k → ok2 k := fun k hk => by rw [hok2e]; exact FP.fresh HS.out k hk
       have cm : ∀ (W : World) {p : Addr} {v : Value}, Below wr.drew.heap.size wr.drew W → wr.cell? p = some v → W.cell? p = some v := fun W p v hW hx => (hW.cell (World.block_lt_of_cell? _ _ hx)).trans hx
       have ca0 := fun (W : World) (hW : Below wr.drew.heap.size wr.drew W) => cm W hW xa0
       have ca1 := fun (W : World) (hW : Below wr.drew.heap.size wr.drew W) => cm W hW xa1
       have ca2 := fun (W : World) (hW : Below wr.drew.heap.size wr.drew W) => cm W hW xa2
       rw [← hok2e] at xva
       have eva := EXv.move (W1 := wr.drew) xva (below_drew (Below.refl _ _))
       have cb0 := fun (W : World) (hW : Below wr.drew.heap.size wr.drew W) => cm W hW xb0
       have cb1 := fun (W : World) (hW : Below wr.drew.heap.size wr.drew W) => cm W hW xb1
       have cb2 := fun (W : World) (hW : Below wr.drew.heap.size wr.drew W) => cm W hW xb2
       rw [← hok2e] at xvb
       have evb := EXv.move (W1 := wr.drew) xvb (below_drew (Below.refl _ _))
       clear xa0 xa1 xa2 xb0 xb1 xb2 xva xvb
       refine any_x [some 119, some 120, some 121, some 122, some 123, some 124, some 125, some 126, some 127, some 128, some 129, some 130, some 131, some 5] [some 119, some 120, some 121, some 122, some 123, some 124, some 125, some 126, some 127, some 128, some 129, some 130, some 131, some 5] [] 150 12 [0, 0, 0, 6, 14, 0, 0, 96, 224, 510, 1022, 2046, 4095, 8191] [VP.eq (u5), VP.eq (.slice (some ada) a.length ca), VP.eq (.int .i64 (i : Int)), VP.eq (.pointer (some (ada.add (i * 3)))), VP.ex ok2 (a[i]), VP.eq (.slice (some adb) b.length cb), VP.eq (.int .i64 (i : Int)), VP.eq (.pointer (some (adb.add (i * 3)))), VP.ex ok2 (b[i]), VP.exs ok2 ([a[i], b[i]]), VP.ex ok2 ((⟨4, 0, [a[i], b[i]]⟩ : S31)), VP.exs ok2 ([(⟨4, 0, [a[i], b[i]]⟩ : S31)])] (fun j hj => by cases hj) rfl wt101_29_tab rfl rfl (by kernel_rfl) rfl ⟨?_, ?_, ?_, ?_, ?_, ?_, ?_, ?_, ?_, ?_, ?_, ?_, trivial⟩ ?_
       ·intro bq W B hW hB hb hd K hK hK2 hK3; exact mv_step rfl rfl (hb 5) (hK _ _ rfl (Below.refl _ _))
       ·intro bq W B hW hB hb hd K hK hK2 hK3; exact mv_step rfl rfl (hb 8) (hK _ _ rfl (Below.refl _ _))
       ·intro bq W B hW hB hb hd K hK hK2 hK3; exact mv_step rfl rfl (hb 12) (hK _ _ rfl (Below.refl _ _))
       ·intro bq W B hW hB hb hd K hK hK2 hK3; exact ix_step rfl rfl (hd 1 120) (hd 2 121) hia hma (hK _ _ rfl (Below.refl _ _))
       ·intro bq W B hW hB hb hd K hK hK2 hK3; exact ld_step rfl rfl (hd 3 122) (ca0 W hW) (ca1 W hW) (ca2 W hW) (hK _ _ (EXv.old eva hW hB) (Below.refl _ _))
       ·intro bq W B hW hB hb hd K hK hK2 hK3; exact mv_step rfl rfl (hb 9) (hK _ _ rfl (Below.refl _ _))
       ·intro bq W B hW hB hb hd K hK hK2 hK3; exact mv_step rfl rfl (hb 12) (hK _ _ rfl (Below.refl _ _))
       ·intro bq W B hW hB hb hd K hK hK2 hK3; exact ix_step rfl rfl (hd 5 124) (hd 6 125) hib hmb (hK _ _ rfl (Below.refl _ _))
       ·intro bq W B hW hB hb hd K hK hK2 hK3; exact ld_step rfl rfl (hd 7 126) (cb0 W hW) (cb1 W hW) (cb2 W hW) (hK _ _ (EXv.old evb hW hB) (Below.refl _ _))
       ·intro bq W B hW hB hb hd K hK hK2 hK3; exact bs2_step rfl rfl rfl (hd 4 123) (hd 8 127) (fresh_ hok2 hW hB _ (Nat.le_refl _)) (fun v W' hv hb => hK v W' hv hb)
       ·intro bq W B hW hB hb hd K hK hK2 hK3; exact sx_step rfl rfl rfl (hd 9 128) (fresh_ hok2 hW hB) (fun v W' hv hb => hK v W' hv hb)
       ·intro bq W B hW hB hb hd K hK hK2 hK3; exact bs1_step rfl rfl rfl (hd 10 129) (fresh_ hok2 hW hB _ (Nat.le_refl _)) (fun v W' hv hb => hK v W' hv hb)
       ·intro vals F W B hF hW hBB hV _
        have hL : vals 119 = u5 := hV 0 119 (of_decide_eq_true (by kernel_rfl)) rfl
        have hX : EXs (fun k => ok2 k ∧ ¬ B k) W (vals 130) [(⟨4, 0, [a[i], b[i]]⟩ : S31)] := hV 11 130 (of_decide_eq_true (by kernel_rfl)) rfl
        have hbw : Below wr.heap.size wr W := ((below_drew1 (Below.refl wr.heap.size wr)).trans hW)
        have HX := Aside0.mk (EXs.mono (ok' := FP w S u5) hX (fun k hk => by rw [← hok2e]; exact hk.1))
        have q0_ := Aside0.mk (HS.out.below hbw)
        have q3_ := Aside0.mk (blk_below HG.out hbw)
        rw [hF]
        clear hF hV hBB hW hbw hX hok2 ca0 ca1 ca2 cb0 cb1 cb2 eva evb cm HS HG 
        simp only [hok2e] at *
        clear hok2e
        simp only [List.take, fillA, Act.put, List.setIfInBounds_toArray, List.set_cons_zero, List.set_cons_succ, hL]
        clear hL
        refine app_ev (w := w) (S := S) (out := out) rfl rfl rfl HX.out q0_.out (by have := HLN.out; have := hn; omega) (fun u6 w6 h6 hg6 hat6 => ?_)
        have HS := Aside0.mk h6
        have HG := Aside0.mk (blk_grown q3_.out hg6 (Kd.N_ne q0_.out.row q3_.out (by decide)))
        clear h6 hg6 hat6 q0_ q3_ HX 
        simp only [Act.put, List.setIfInBounds_toArray, List.set_cons_zero, List.set_cons_succ]
        go_wp2
        go_roundg (gk - 1)
        case measure => omega
        case rel => exact ⟨i + 1, out ++ [(⟨4, 0, [a[i], b[i]]⟩ : S31)], rfl, by omega, by omega, ⟨by rw [List.length_append, HLN.out]; rfl⟩, HE2, HS, HG⟩
      ·obtain rfl : i = n := by omega
       have hE := HE.out
       rw [show a.drop i = [] from List.drop_eq_nil_of_le (by have := HAB.out; omega), rnd_nil] at hE
       subst hE
       go_wp2
       go_ret
       exact ⟨_, rfl, EXs.mono (EXs.of (b := 0) (Kd.N_V HS.out.row)) (fun k hk => hk.1), HS.out.base⟩
    ·subst e35
     clear t1 t2 H35
     clear H10
     have y0 := (blk_cell HG.out 0).trans (show _ = some (.int .i64 5) from rfl)
     have HCL := Aside0.mk HCO.out.2.2
     go_upto_region 20 with fail
     clear y0
     refine seq_x [some 70, some 71, some 72, none] 150 3 [VP.eq (.slice Aa a.length ca), VP.eq (.slice Ab b.length cb), VP.ex (FP w S u0) (lessE a b)] rfl rfl (by kernel_rfl) rfl ⟨?_, ?_, ?_, trivial⟩ ?_
     ·intro bq W B hW hB hb hd K hK hK2 hK3; exact mv_step rfl rfl (hb 8) (hK _ _ rfl (Below.refl _ _))
     ·intro bq W B hW hB hb hd K hK hK2 hK3; exact mv_step rfl rfl (hb 9) (hK _ _ rfl (Below.refl _ _))
     ·intro bq W B hW hB hb hd K hK hK2 hK3; exact sless_step (kf := kf) rfl rfl rfl (hd 0 70) (hd 1 71) (by have := HAB.out; omega) (EXs.old HS.out.a hW hB) (EXs.old HS.out.b hW hB) (fresh_ (w0 := wz) (FP.fresh HS.out) hW hB) HCO.out.1 (fun v W' hv hb => hK v W' hv hb)
     ·intro vals F W2 B hF hW hBB hV _
      have hX : EXv (fun k => FP w S u0 k ∧ ¬ B k) W2 (vals 72) (lessE a b) := hV 2 72 (of_decide_eq_true (by kernel_rfl)) rfl
      have HX := Aside0.mk (EXv.mono (ok' := FP w S u0) hX (fun k hk => hk.1))
      have q0_ := Aside0.mk (HS.out.below hW)
      have q2_ := Aside0.mk (H11.out.below hW)
      have q3_ := Aside0.mk (blk_below HG.out hW)
      rw [hF]
      clear hF hV hBB hW hX HS H11 HG
      simp only [List.take, fillA, Act.put, List.setIfInBounds_toArray, List.set_cons_zero, List.set_cons_succ]
      refine sto_ev (g := g11) (ok := FP w S u0) (x := lessE a b) rfl rfl rfl rfl HX.out q2_.out.blk (fun w6 A8 c8 hk6 hv6 hw6 => ?_)
      have HS := Aside0.mk (q0_.out.write HSG.out.2.1 hw6)
      have H11 := Aside0.mk (Bx.made hk6 hv6 HSG.out.2.1 hw6)
      have HG := Aside0.mk (blk_kept q3_.out hw6.kept HNE.out.2.2)
      clear q0_ q2_ q3_ HX hk6 hv6 hw6
      go_wp2
      go_loopg [5, 12] n (fun gg v5 v12 wr => ∃ (i : Nat) (out : List S31), v12 = .int .i64 i ∧ i ≤ n ∧ n - i ≤ gg ∧ Aside0 (out.length = i) ∧ Aside0 (rnd 5 (lessE a b) (a.drop i) (b.drop i) (⟨2, 0, []⟩ : S31) out = r) ∧ Aside0 (Bx w S wr v5 g11 A8 c8 (lessE a b)) ∧ Aside0 (St w S wr v5 out (.slice Aa a.length ca) (.slice Ab b.length cb) a b) ∧ Aside0 (wr.heap[g]? = some (.cells #[.int .i64 5, .int .i64 num, .slice (some ad) 2 c] 81 (0, 0))))
      case atStart => exact ⟨0, [], rfl, Nat.zero_le _, by omega, ⟨rfl⟩, HH, H11, HS, HG⟩
      case round =>
       clear HS H11 HG HH
       obtain ⟨i, out, rfl, hi, hgk, HLN, HE, H11, HS, HG⟩ := hrel
       by_cases hlt : i < n
       ·have hltz : (i : Int) < (n : Int) := by omega
        have h0z : (0 : Int) ≤ (i : Int) := by omega
        have hia : i < a.length := by have := HAB.out; omega
        have hib : i < b.length := by have := HAB.out; omega
        have hma : a.length ≤ 9223372036854775807 := by have := HAB.out; omega
        have hmb : b.length ≤ 9223372036854775807 := by have := HAB.out; omega
        have ew : IntKind.i64.wrap ((i : Int) + 1) = ((i + 1 : Nat) : Int) := IntWalk.i64_in _ (by omega)
        have hE := HE.out
        rw [List.drop_eq_getElem_cons hia, List.drop_eq_getElem_cons hib, rnd] at hE
        rw [if_neg (by decide), if_neg (by decide)] at hE
        have HE2 := Aside0.mk hE
        clear hE HE
        have y0 := (blk_cell HG.out 0).trans (show _ = some (.int .i64 5) from rfl)
        go_upto_region 31 with fail
        clear y0
        obtain ⟨ada, ca_, Ax, cx, exa, xa0, xa1, xa2, xva⟩ := HS.out.a.at i hia
        cases exa
        obtain ⟨adb, cb_, Ay, cy, exb, xb0, xb1, xb2, xvb⟩ := HS.out.b.at i hib
        cases exb
        obtain ⟨ok2, hok2e⟩ : ∃ q, q = FP w S u5 := ⟨_, rfl⟩
        have hok2 : ∀ k, wr.drew.heap.size ≤ k → ok2 k := fun k hk => by rw [hok2e]; exact FP.fresh HS.out k hk
        have cm : ∀ (W : World) {p : Addr} {v : Value}, Below wr.drew.heap.size wr.drew W → wr.cell? p = some v → W.cell? p = some v := fun W p v hW hx => (hW.cell (World.block_lt_of_cell? _ _ hx)).trans hx
        have c11_0 := fun (W : World) (hW : Below wr.drew.heap.size wr.drew W) => cm W hW ((blk_cell H11.out.blk 0).trans (show _ = some (.int .i64 (lessE a b).f0) from rfl))
        have c11_1 := fun (W : World) (hW : Below wr.drew.heap.size wr.drew W) => cm W hW ((blk_cell H11.out.blk 1).trans (show _ = some (.int .i64 (lessE a b).f1) from rfl))
        have c11_2 := fun (W : World) (hW : Below wr.drew.heap.size wr.drew W) => cm W hW ((blk_cell H11.out.blk 2).trans (show _ = some (.slice A8 (lessE a b).f2.length c8) from rfl))
        have ec11_ := EXv.move (W1 := wr.drew) H11.out.val (below_drew (Below.refl _ _))
        rw [← hok2e] at ec11_
        have ca0 := fun (W : World) (hW : Below wr.drew.heap.size wr.drew W) => cm W hW xa0
        have ca1 := fun (W : World) (hW : Below wr.drew.heap.size wr.drew W) => cm W hW xa1
        have ca2 := fun (W : World) (hW : Below wr.drew.heap.size wr.drew W) => cm W hW xa2
        rw [← hok2e] at xva
        have eva := EXv.move (W1 := wr.drew) xva (below_drew (Below.refl _ _))
        have cb0 := fun (W : World) (hW : Below wr.drew.heap.size wr.drew W) => cm W hW xb0
        have cb1 := fun (W : World) (hW : Below wr.drew.heap.size wr.drew W) => cm W hW xb1
        have cb2 := fun (W : World) (hW : Below wr.drew.heap.size wr.drew W) => cm W hW xb2
        rw [← hok2e] at xvb
        have evb := EXv.move (W1 := wr.drew) xvb (below_drew (Below.refl _ _))
        clear xa0 xa1 xa2 xb0 xb1 xb2 xva xvb
        refine any_x [some 134, some 135, some 136, some 137, some 138, some 139, some 140, some 141, some 142, some 143, some 144, some 145, some 146, some 147, some 148, some 5] [some 134, some 135, some 136, some 137, some 138, some 139, some 140, some 141, some 142, some 143, some 144, some 145, some 146, some 147, some 148, some 5] [] 150 14 [0, 0, 2, 0, 0, 24, 56, 0, 0, 384, 896, 2046, 4094, 8190, 16383, 32767] [VP.eq (u5), VP.ex ok2 (lessE a b), VP.ex ok2 (lessE a b), VP.eq (.slice (some ada) a.length ca), VP.eq (.int .i64 (i : Int)), VP.eq (.pointer (some (ada.add (i * 3)))), VP.ex ok2 (a[i]), VP.eq (.slice (some adb) b.length cb), VP.eq (.int .i64 (i : Int)), VP.eq (.pointer (some (adb.add (i * 3)))), VP.ex ok2 (b[i]), VP.exs ok2 ([lessE a b, a[i], b[i]]), VP.ex ok2 ((⟨7, 0, [lessE a b, a[i], b[i]]⟩ : S31)), VP.exs ok2 ([(⟨7, 0, [lessE a b, a[i], b[i]]⟩ : S31)])] (fun j hj => by cases hj) rfl wt101_31_tab rfl rfl (by kernel_rfl) rfl ⟨?_, ?_, ?_, ?_, ?_, ?_, ?_, ?_, ?_, ?_, ?_, ?_, ?_, ?_, trivial⟩ ?_
        ·intro bq W B hW hB hb hd K hK hK2 hK3; exact mv_step rfl rfl (hb 5) (hK _ _ rfl (Below.refl _ _))
        ·intro bq W B hW hB hb hd K hK hK2 hK3; exact ld_step rfl rfl (hb 11) (c11_0 W hW) (c11_1 W hW) (c11_2 W hW) (hK _ _ (EXv.old ec11_ hW hB) (Below.refl _ _))
        ·intro bq W B hW hB hb hd K hK hK2 hK3; exact cp_step rfl rfl rfl (hd 1 135) HCL.out (fresh_ hok2 hW hB) (fun v W' hv hb => hK v W' hv hb)
        ·intro bq W B hW hB hb hd K hK hK2 hK3; exact mv_step rfl rfl (hb 8) (hK _ _ rfl (Below.refl _ _))
        ·intro bq W B hW hB hb hd K hK hK2 hK3; exact mv_step rfl rfl (hb 12) (hK _ _ rfl (Below.refl _ _))
        ·intro bq W B hW hB hb hd K hK hK2 hK3; exact ix_step rfl rfl (hd 3 137) (hd 4 138) hia hma (hK _ _ rfl (Below.refl _ _))
        ·intro bq W B hW hB hb hd K hK hK2 hK3; exact ld_step rfl rfl (hd 5 139) (ca0 W hW) (ca1 W hW) (ca2 W hW) (hK _ _ (EXv.old eva hW hB) (Below.refl _ _))
        ·intro bq W B hW hB hb hd K hK hK2 hK3; exact mv_step rfl rfl (hb 9) (hK _ _ rfl (Below.refl _ _))
        ·intro bq W B hW hB hb hd K hK hK2 hK3; exact mv_step rfl rfl (hb 12) (hK _ _ rfl (Below.refl _ _))
        ·intro bq W B hW hB hb hd K hK hK2 hK3; exact ix_step rfl rfl (hd 7 141) (hd 8 142) hib hmb (hK _ _ rfl (Below.refl _ _))
        ·intro bq W B hW hB hb hd K hK hK2 hK3; exact ld_step rfl rfl (hd 9 143) (cb0 W hW) (cb1 W hW) (cb2 W hW) (hK _ _ (EXv.old evb hW hB) (Below.refl _ _))
        ·intro bq W B hW hB hb hd K hK hK2 hK3; exact bs3_step rfl rfl rfl (hd 2 136) (hd 6 140) (hd 10 144) (fresh_ hok2 hW hB _ (Nat.le_refl _)) (fun v W' hv hb => hK v W' hv hb)
        ·intro bq W B hW hB hb hd K hK hK2 hK3; exact sx_step rfl rfl rfl (hd 11 145) (fresh_ hok2 hW hB) (fun v W' hv hb => hK v W' hv hb)
        ·intro bq W B hW hB hb hd K hK hK2 hK3; exact bs1_step rfl rfl rfl (hd 12 146) (fresh_ hok2 hW hB _ (Nat.le_refl _)) (fun v W' hv hb => hK v W' hv hb)
        ·intro vals F W B hF hW hBB hV _
         have hL : vals 134 = u5 := hV 0 134 (of_decide_eq_true (by kernel_rfl)) rfl
         have hX : EXs (fun k => ok2 k ∧ ¬ B k) W (vals 147) [(⟨7, 0, [lessE a b, a[i], b[i]]⟩ : S31)] := hV 13 147 (of_decide_eq_true (by kernel_rfl)) rfl
         have hbw : Below wr.heap.size wr W := ((below_drew1 (Below.refl wr.heap.size wr)).trans hW)
         have HX := Aside0.mk (EXs.mono (ok' := FP w S u5) hX (fun k hk => by rw [← hok2e]; exact hk.1))
         have q0_ := Aside0.mk (HS.out.below hbw)
         have q3_ := Aside0.mk (blk_below HG.out hbw)
         have qH11_ := Aside0.mk (H11.out.below hbw)
         rw [hF]
         clear hF hV hBB hW hbw hX hok2 ca0 ca1 ca2 cb0 cb1 cb2 eva evb cm c11_0 c11_1 c11_2 ec11_ HS HG H11
         simp only [hok2e] at *
         clear hok2e
         simp only [List.take, fillA, Act.put, List.setIfInBounds_toArray, List.set_cons_zero, List.set_cons_succ, hL]
         clear hL
         refine app_ev (w := w) (S := S) (out := out) rfl rfl rfl HX.out q0_.out (by have := HLN.out; have := hn; omega) (fun u6 w6 h6 hg6 hat6 => ?_)
         have HS := Aside0.mk h6
         have HG := Aside0.mk (blk_grown q3_.out hg6 (Kd.N_ne q0_.out.row q3_.out (by decide)))
         have H11 := Aside0.mk (qH11_.out.after (q0_.out.away HSG.out.2.1) hg6 hat6)
         clear h6 hg6 hat6 q0_ q3_ HX qH11_
         simp only [Act.put, List.setIfInBounds_toArray, List.set_cons_zero, List.set_cons_succ]
         go_wp2
         go_roundg (gk - 1)
         case measure => omega
         case rel => exact ⟨i + 1, out ++ [(⟨7, 0, [lessE a b, a[i], b[i]]⟩ : S31)], rfl, by omega, by omega, ⟨by rw [List.length_append, HLN.out]; rfl⟩, HE2, H11, HS, HG⟩
       ·obtain rfl : i = n := by omega
        have hE := HE.out
        rw [show a.drop i = [] from List.drop_eq_nil_of_le (by have := HAB.out; omega), rnd_nil] at hE
        subst hE
        go_wp2
        go_ret
        exact ⟨_, rfl, EXs.mono (EXs.of (b := 0) (Kd.N_V HS.out.row)) (fun k hk => hk.1), HS.out.base⟩
theorem EXs.emp (ok : Nat → Prop) (W : World) (A : Option Addr) (c : Nat) : EXs ok W (.slice A 0 c) [] := ⟨A, c, rfl, Nat.zero_le _, fun _ _ => ⟨rfl, by simp, fun h => absurd h (by simp)⟩⟩
noncomputable def spec_WordBits.f (k : Nat) (a0 a1 : Int) (l2 : List S81) (n : Int) : Option (List S31 × Int) :=
 (spec_WordOK.f k a0 a1 l2 n).bind fun t => if t = true then (if 0 ≤ n ∧ n ≤ 6 then (sbitsF k n.toNat 10 a0 a1 l2).bind fun r => (spec_l05Fits.f k r).bind fun u => if u = true then some (r, 0) else some ([], 11) else none) else some ([], 1)
set_option maxHeartbeats 4000000 in
set_option maxRecDepth 100000 in
theorem spec_WordBits.calls (k : Nat) (a0 a1 : Int) (A : Option Addr) (c : Nat) (l2 : List S81) (n : Int) (r : List S31) (q : Int) (w : World) (hC : Kd.C k81 w A l2.length l2) (hc : l2.length ≤ c) (h : spec_WordBits.f k a0 a1 l2 n = some (r, q)) :
  Calls Try.prog 47 #[.agg #[.int .i64 a0, .int .i64 a1, .slice A l2.length c], .int .i64 n] w fun e w' => ∃ v, e = .returned (.tuple #[v, .int .i64 q]) ∧ EXs (fun k => w.heap.size ≤ k) w' v r ∧ Below w.heap.size w w' := by
 have hu31 := Try.underlying31
 have hu81 := Try.underlying81
 have hu29 := Try.underlying29
 have HC := Aside0.mk hC
 clear hC
 unfold spec_WordBits.f at h
 obtain ⟨t, ht, h⟩ := Option.bind_eq_some_iff.1 h
 have hisw := fun W (hb : Below w.heap.size w W) => spec_WordOK.calls k a0 a1 A c l2 n t W (Kd.C_below HC.out hb) hc ht
 clear ht
 obtain ⟨g, hg⟩ : ∃ g, w.heap.size = g := ⟨_, rfl⟩
 go_enter Try.func47, Try.ntmps47
 go_upto_region 1 with fail
 have hb2 : Below w.heap.size w (w.alloc (.cells #[.int .i64 a0, .int .i64 a1, .slice A l2.length c] 81)) := below_alloc (Below.refl _ _) _
 have k1 : (w.alloc (.cells #[.int .i64 a0, .int .i64 a1, .slice A l2.length c] 81)).heap[g]? = some (.cells #[.int .i64 a0, .int .i64 a1, .slice A l2.length c] 81 (0, 0)) := by rw [← hg]; exact blk_new w _
 generalize w.alloc (.cells #[.int .i64 a0, .int .i64 a1, .slice A l2.length c] 81) = wq at hb2 k1 ⊢
 have y0 := (blk_cell k1 0).trans (show _ = some (.int .i64 a0) from rfl)
 have y1 := (blk_cell k1 1).trans (show _ = some (.int .i64 a1) from rfl)
 have y2 := (blk_cell k1 2).trans (show _ = some (.slice A l2.length c) from rfl)
 have HG := Aside0.mk k1
 have HB := Aside0.mk hb2
 clear hg hb2 k1
 cases t with
 | false =>
  rw [if_neg (by decide)] at h
  cases h
  go_wp2_with (go_at_call 100; refine (hisw _ HB.out).mono ?_; rintro e w1 ⟨rfl, hb⟩; have m0_ := Aside0.mk (HB.out.trans (hb.mono HB.out.size)); clear HB hb hisw y0 y1 y2; have HB := m0_; clear m0_)
  go_ret2
  exact ⟨_, rfl, EXs.emp _ _ _ _, below_alloc HB.out _⟩
 | true =>
  rw [if_pos rfl] at h
  rcases Classical.em (¬ (0 ≤ n ∧ n ≤ 6)) with hn | hn
  ·rw [if_neg hn] at h; cases h
  replace hn := Classical.not_not.1 hn
  rw [if_pos hn] at h
  obtain ⟨m, hm⟩ : ∃ m : Nat, n = m := ⟨n.toNat, by omega⟩
  subst hm
  rw [Int.toNat_natCast] at h
  obtain ⟨b, hwb, h⟩ := Option.bind_eq_some_iff.1 h
  have hwbs := fun W (hb : Below w.heap.size w W) => sbits_any k m (by omega) 10 a0 a1 A c l2 b W (Kd.C_below HC.out hb) hc hwb
  obtain ⟨u, hu, h⟩ := Option.bind_eq_some_iff.1 h
  have HU := Aside0.mk hu
  have HH := Aside0.mk h
  clear h hwb hu
  go_upto_region 3 with (go_at_call 100; refine (hisw _ HB.out).mono ?_; rintro e w1 ⟨rfl, hb⟩; have m0_ := Aside0.mk (HB.out.trans (hb.mono HB.out.size)); have m1_ := Aside0.mk (blk_below HG.out hb); clear HB HG hb hisw y0 y1 y2; have HB := m0_; have HG := m1_; clear m0_ m1_)
  have y0 := (blk_cell HG.out 0).trans (show _ = some (.int .i64 a0) from rfl)
  have y1 := (blk_cell HG.out 1).trans (show _ = some (.int .i64 a1) from rfl)
  have y2 := (blk_cell HG.out 2).trans (show _ = some (.slice A l2.length c) from rfl)
  go_upto_region 4 with (go_at_call 101; refine (hwbs _ HB.out).mono ?_; rintro e w2 ⟨v, rfl, hv, hb⟩; have HV := Aside0.mk (EXs.mono (ok' := fun k => w.heap.size ≤ k) hv (fun k_ hk_ => Nat.le_trans HB.out.size hk_)); have m0_ := Aside0.mk (HB.out.trans (hb.mono HB.out.size)); clear HB hb hwbs y0 y1 y2 HG; have HB := m0_; clear m0_; obtain ⟨Ab, cb, eb, lb, Cb⟩ := EXs.C hv; subst eb; clear hv; have HCb := Aside0.mk (And.intro Cb lb); clear Cb lb)
  cases u with
  | true =>
   have h := HH.out
   rw [if_pos rfl] at h
   cases h
   go_wp2_with (go_at_call 77; refine (spec_l05Fits.calls k Ab cb _ true _ HCb.out.1 HCb.out.2 HU.out).mono ?_; rintro e w3 ⟨rfl, hb⟩; have m0_ := Aside0.mk (HB.out.trans (hb.mono HB.out.size)); have m1_ := Aside0.mk (EXs.move HV.out hb); clear HB hb HV HCb; have HB := m0_; have HV := m1_; clear m0_ m1_)
   go_ret2
   exact ⟨_, rfl, HV.out, HB.out⟩
  | false =>
   have h := HH.out
   rw [if_neg (by decide)] at h
   cases h
   go_wp2_with (go_at_call 77; refine (spec_l05Fits.calls k Ab cb _ false _ HCb.out.1 HCb.out.2 HU.out).mono ?_; rintro e w3 ⟨rfl, hb⟩; have m0_ := Aside0.mk (HB.out.trans (hb.mono HB.out.size)); clear HB hb HV HCb; have HB := m0_; clear m0_)
   go_ret2
   exact ⟨_, rfl, EXs.emp _ _ _ _, below_alloc HB.out _⟩
end Go.Proofs.Ytcmkkoggdcjceaa.PFnExactWordBits
end
section
namespace Go.Proofs.Ytcmkkoggdcjceaa.PFnExactWordBits
open Go.RowKit Go.Proofs.YtcmkkoggdcjceaaW.PrintWords Go.Proofs.YtcmkkoggdcjceaaW.PrintLast Go.Proofs.YtcmkkoggdcjceaaW.PrintMore
attribute [local go_sem] max2_int min2_int max_two min_two max_three min_three max_four min_four   -- for this text's walks alone
set_option linter.unusedVariables false
set_option linter.unusedSimpArgs false
def FS81 (d : Kd S81) : Kd S81 := Kd.iso (Kd.pair (Kd.int .i64) (Kd.pair (Kd.int .i64) (sliceS 81 d))) (fun x : S81 => (x.f0, x.f1, x.f2))
theorem monoS81 : Kd.Mono FS81 := Kd.mono_iso _ (Kd.mono_pair (Kd.mono_const _) (Kd.mono_pair (Kd.mono_const _) (mono_sliceS 81 Kd.mono_id)))
theorem subS81 : Kd.Sub FS81 [81] := Kd.sub_iso _ (Kd.sub_pair (Kd.sub_const _ (by decide)) (Kd.sub_pair (Kd.sub_const _ (by decide)) (sub_sliceS 81 (by decide) Kd.sub_id)))
theorem szS81 : ∀ n, (Kd.upto FS81 3 [81] n).sz = 3 := Kd.upto_sz (fun _ => rfl)
def kS81 : Kd S81 := Kd.fix FS81 3 [81] szS81 (Kd.upto_E subS81)
theorem kS81_openM {w : World} {base : Nat} {ok : Nat → Prop} {x : S81} {cs : List Value} (h : kS81.M w base ok x cs) : ∃ v2, cs = [.int .i64 x.f0, .int .i64 x.f1, v2] ∧ Kd.S kS81 81 w base ok v2 x.f2 := by
 obtain ⟨n, h⟩ := h
 cases n with
 | zero => exact h.elim
 | succ n =>
  obtain ⟨_, _, rfl, rfl, ⟨_, _, rfl, rfl, ⟨v2, rfl, g2⟩⟩⟩ := h
  exact ⟨v2, rfl, S_imp (d' := kS81) (szS81 n) (fun w base ok x cs hp => ⟨n, hp⟩) g2⟩
theorem kS81_mkM (w : World) (base : Nat) (ok : Nat → Prop) (x : S81) {v2 : Value} (g2 : Kd.S kS81 81 w base ok v2 x.f2) : kS81.M w base ok x [.int .i64 x.f0, .int .i64 x.f1, v2] := by
 obtain ⟨n2, q2⟩ := fix_S_back monoS81 g2
 exact ⟨n2 + 1, ⟨[.int .i64 x.f0], [.int .i64 x.f1, v2], rfl, rfl, ⟨[.int .i64 x.f1], [v2], rfl, rfl, ⟨v2, rfl, q2⟩⟩⟩⟩
theorem kS81_upto_K : ∀ n {w : World} {x : S81} {cs : List Value}, (Kd.upto FS81 3 [81] n).K w x cs → (Kd.upto F81 3 [81] n).K w x cs := by
 intro n
 induction n with
 | zero => exact fun h => h
 | succ n ih =>
  rintro w x cs ⟨c0, c1, rfl, h0, c2, c3, rfl, h1, A, c, rfl, hl, hc⟩
  exact ⟨c0, _, rfl, h0, c2, _, rfl, h1, A, c, rfl, hl, Kd.C_imp ((szS81 n).trans (sz81 n).symm) (fun w x cs h => ih h) hc⟩
theorem kS81_K {w : World} {x : S81} {cs : List Value} (h : kS81.K w x cs) : k81.K w x cs := by
 obtain ⟨n, h⟩ := h
 exact ⟨n, kS81_upto_K n h⟩
theorem kS81_C {w : World} {A : Option Addr} {n : Nat} {xs : List S81} (h : Kd.C kS81 w A n xs) : Kd.C k81 w A n xs := Kd.C_imp (d := kS81) (d' := k81) rfl (fun _ _ _ h => kS81_K h) h
mutual
def nTW : S81 → Nat
 | ⟨_, _, l⟩ => 1 + nLW l
def nLW : List S81 → Nat
 | [] => 0
 | x :: r => nTW x + nLW r
end
mutual
def mkTW : S81 → Int → S81
 | ⟨_, _, l⟩, a => ⟨a, a + 1, mkLW l (a + 2)⟩
def mkLW : List S81 → Int → List S81
 | [], _ => []
 | x :: r, a => mkTW x a :: mkLW r (a + 2 * nTW x)
end
theorem nT_eqW (x : S81) : nTW x = 1 + nLW x.f2 := by
 obtain ⟨a, b, l⟩ := x
 rw [nTW]
theorem mkT_eqW (x : S81) (a : Int) : mkTW x a = ⟨a, a + 1, mkLW x.f2 (a + 2)⟩ := by
 obtain ⟨b, c, l⟩ := x
 rw [mkTW]
theorem mkL_lengthW : ∀ (l : List S81) (a : Int), (mkLW l a).length = l.length
 | [], _ => by rw [mkLW]
 | x :: r, a => by rw [mkLW, List.length_cons, List.length_cons, mkL_lengthW r]
theorem nL_takeW : ∀ (l : List S81) (i : Nat) (x : S81), l[i]? = some x → nLW (l.take (i + 1)) = nLW (l.take i) + nTW x
 | [], i, x, h => by cases h
 | y :: r, 0, x, h => by
  obtain rfl : y = x := by simpa using h
  simp [nLW]
 | y :: r, i + 1, x, h => by
  have := nL_takeW r i x (by simpa using h)
  rw [List.take_succ_cons, List.take_succ_cons, nLW, nLW, this]
  omega
theorem nL_take_leW : ∀ (l : List S81) (i : Nat), nLW (l.take i) ≤ nLW l
 | [], i => by simp [nLW]
 | y :: r, 0 => by simp [nLW]
 | y :: r, i + 1 => by
  rw [List.take_succ_cons, nLW, nLW]
  have := nL_take_leW r i
  omega
theorem mkL_atW : ∀ (l : List S81) (a : Int) (i : Nat) (x : S81), l[i]? = some x → (mkLW l a)[i]? = some (mkTW x (a + 2 * nLW (l.take i)))
 | [], _, i, x, h => by cases h
 | y :: r, a, 0, x, h => by
  obtain rfl : y = x := by simpa using h
  rw [mkLW]
  simp [nLW]
 | y :: r, a, i + 1, x, h => by
  rw [mkLW, List.getElem?_cons_succ, mkL_atW r _ i x (by simpa using h), List.take_succ_cons, nLW]
  congr 2
  omega
inductive OTW : World → (Nat → Prop) → Value → List S81 → Prop
 | nil (w : World) (P : Nat → Prop) (A : Option Addr) (c : Nat) : OTW w P (.slice A 0 c) []
 | row {w : World} {P : Nat → Prop} {g cap : Nat} {xs : List S81} (cur : Array Value) (f : Nat → Nat) (vs : Nat → Value) (hp : 0 < xs.length) (hc : xs.length ≤ cap) (hm : xs.length ≤ 9223372036854775807) (hg : P g) (hb : w.heap[g]? = some (.cells cur 81 (0, 0)))
   (hcell : ∀ j x, xs[j]? = some x → cur[j * 3]? = some (.int .i64 x.f0) ∧ cur[j * 3 + 1]? = some (.int .i64 x.f1) ∧ cur[j * 3 + 2]? = some (vs j))
   (hk : ∀ j x, xs[j]? = some x → OTW w (fun k => (P k ∧ k ≠ g) ∧ f k = j) (vs j) x.f2) : OTW w P (.slice (some ⟨g, 0, none⟩) xs.length cap) xs
theorem OTW.move {w : World} {P : Nat → Prop} {v : Value} {xs : List S81} (h : OTW w P v xs) : ∀ {w1 : World}, (∀ k, P k → k < w.heap.size → w1.heap[k]? = w.heap[k]?) → OTW w1 P v xs := by
 induction h with
 | nil => exact fun _ => .nil _ _ _ _
 | row cur f vs hp hc hm hg hb hcell hk ih =>
  intro w1 hmv
  exact .row cur f vs hp hc hm hg ((hmv _ hg (blk_lt hb)).trans hb) hcell (fun j x hx => ih j x hx (fun k hk hlt => hmv k hk.1.1 hlt))
theorem OTW.kept {w w1 : World} {P S : Nat → Prop} {v : Value} {xs : List S81} (h : OTW w P v xs) (hk : Kept w w1 S) (hn : ∀ k, P k → ¬ S k) : OTW w1 P v xs := h.move (fun k hp hlt => hk.2 k hlt (hn k hp))
theorem OTW.reads {w : World} {P : Nat → Prop} {v : Value} {xs : List S81} (h : OTW w P v xs) : ∃ A c, v = .slice A xs.length c ∧ xs.length ≤ c ∧ Kd.C k81 w A xs.length xs := by
 induction h with
 | nil P A c => exact ⟨A, c, rfl, by simp, rfl, by simp, fun h => absurd h (by simp)⟩
 | @row P g cap xs cur f vs hp hc hm hg hb hcell hk ih =>
  refine ⟨_, _, rfl, hc, rfl, hm, fun _ => ⟨_, rfl, fun j x hx => ?_⟩⟩
  obtain ⟨h0, h1, h2⟩ := hcell j x hx
  obtain ⟨A, c, ev, hlc, hC⟩ := ih j x hx
  rw [ev] at h2
  refine ⟨[.int .i64 x.f0, .int .i64 x.f1, .slice A x.f2.length c], rfl, k81_mk w x hlc hC, fun i u hu => ?_⟩
  rw [add_at, Nat.zero_add, blk_cell hb]
  show cur[j * 3 + i]? = some u
  match i, hu with
  | 0, hu => cases hu; exact h0
  | 1, hu => cases hu; exact h1
  | 2, hu => cases hu; exact h2
theorem OTW.mono {w : World} {P Q : Nat → Prop} {v : Value} {xs : List S81} (h : OTW w P v xs) (hq : ∀ k, P k → Q k) : OTW w Q v xs := by
 induction h generalizing Q with
 | nil => exact .nil _ _ _ _
 | row cur f vs hp hc hm hg hb hcell hk ih => exact .row cur f vs hp hc hm (hq _ hg) hb hcell (fun j x hx => ih j x hx (fun k hk => ⟨⟨hq k hk.1.1, hk.1.2⟩, hk.2⟩))
theorem OTW.bound {w : World} {P : Nat → Prop} {v : Value} {xs : List S81} (h : OTW w P v xs) : OTW w (fun k => P k ∧ k < w.heap.size) v xs := by
 induction h with
 | nil => exact .nil _ _ _ _
 | row cur f vs hp hc hm hg hb hcell hk ih => exact .row cur f vs hp hc hm ⟨hg, blk_lt hb⟩ hb hcell (fun j x hx => (ih j x hx).mono (fun k hk => ⟨⟨⟨hk.1.1.1, hk.2⟩, hk.1.1.2⟩, hk.1.2⟩))
theorem OTW.of : ∀ (d : Nat) (xs : List S81), SizeOf.sizeOf xs < d → ∀ {w : World} {base : Nat} {P : Nat → Prop} {v : Value}, Kd.S kS81 81 w base P v xs → OTW w P v xs := by
 intro d
 induction d with
 | zero => exact fun xs h => absurd h (Nat.not_lt_zero _)
 | succ d ih =>
  intro xs hd w base P v h
  obtain ⟨A, c, ev, hlc, hC⟩ := Kd.S_reads h
  have hmax : xs.length ≤ 9223372036854775807 := Kd.C_max hC
  subst ev
  rcases Nat.eq_zero_or_pos xs.length with hz | hp
  ·obtain rfl := List.eq_nil_of_length_eq_zero hz
   exact .nil _ _ _ _
  ·obtain ⟨g, cap, e, _, _, cells, hb⟩ := Kd.S_form h hp
   cases e
   obtain ⟨f, hR⟩ := h
   have key : ∀ j : Nat, ∃ v, ∀ x, xs[j]? = some x → cells[j * 3]? = some (.int .i64 x.f0) ∧ cells[j * 3 + 1]? = some (.int .i64 x.f1) ∧ cells[j * 3 + 2]? = some v ∧ Kd.S kS81 81 w base (fun k => (P k ∧ k ≠ g) ∧ f k = j) v x.f2 := by
    intro j
    by_cases hj : j < xs.length
    ·obtain ⟨c, hc, hM, hcell, _⟩ := Kd.R_elem hR ((z81, 0) : S81 × Nat) (j : Int) (by omega) (by omega)
     rw [Int.toNat_natCast] at hM hcell
     have he : xs.zipIdx.getD j ((z81, 0) : S81 × Nat) = (xs[j], j) := by
      rw [List.getD_eq_getElem?_getD, List.getElem?_zipIdx, List.getElem?_eq_getElem hj, Nat.zero_add]
      rfl
     rw [he] at hM
     obtain ⟨v, rfl, hS⟩ := kS81_openM hM
     refine ⟨v, fun x hx => ?_⟩
     rw [List.getElem?_eq_getElem hj] at hx
     cases hx
     have q : ∀ i u, ([.int .i64 xs[j].f0, .int .i64 xs[j].f1, v] : List Value)[i]? = some u → cells[j * 3 + i]? = some u := fun i u hu => by
      have h9 := hcell i u hu
      exact (blk_cell hb _).symm.trans h9
     exact ⟨q 0 _ rfl, q 1 _ rfl, q 2 _ rfl, hS⟩
    ·exact ⟨undef, fun x hx => by rw [List.getElem?_eq_none (by omega)] at hx; cases hx⟩
   refine .row cells f (fun j => (key j).choose) hp hlc hmax (hR.1 g (by simp [Value.ownBlock])) hb (fun j x hx => ?_) (fun j x hx => ?_)
   ·obtain ⟨h0, h1, h2, _⟩ := (key j).choose_spec x hx
    exact ⟨h0, h1, h2⟩
   ·refine ih x.f2 ?_ ((key j).choose_spec x hx).2.2.2
    have h1 := List.sizeOf_lt_of_mem (List.mem_of_getElem? hx)
    have h2 : SizeOf.sizeOf x.f2 < SizeOf.sizeOf x := by
     obtain ⟨a, b, l⟩ := x
     simp
     omega
    omega
def RWW (w : World) (P : Nat → Prop) (g n : Nat) (f : Nat → Nat) (vs : Nat → Value) (ys : Nat → S81) : Prop :=
 ∃ cur : Array Value, w.heap[g]? = some (.cells cur 81 (0, 0)) ∧ ∀ j, j < n → cur[j * 3]? = some (.int .i64 (ys j).f0) ∧ cur[j * 3 + 1]? = some (.int .i64 (ys j).f1) ∧ cur[j * 3 + 2]? = some (vs j) ∧ OTW w (fun k => (P k ∧ k ≠ g) ∧ f k = j) (vs j) (ys j).f2
theorem RWW.put {w : World} {P : Nat → Prop} {g n : Nat} {f : Nat → Nat} {vs : Nat → Value} {ys : Nat → S81} (h : RWW w P g n f vs ys) (i : Nat) (hi : i < n) (q : Nat) (b : Int) (y : S81) (hy : (q = 0 ∧ y = ⟨b, (ys i).f1, (ys i).f2⟩) ∨ (q = 1 ∧ y = ⟨(ys i).f0, b, (ys i).f2⟩)) : RWW (w.setCell ⟨g, i * 3 + q, none⟩ (.int .i64 b)) P g n f vs (fun j => if j = i then y else ys j) := by
 obtain ⟨cur, hb, hr⟩ := h
 refine ⟨_, blk_set hb _ _, fun j hj => ?_⟩
 obtain ⟨h0, h1, h2, h3⟩ := hr j hj
 obtain ⟨i0, i1, i2, i3⟩ := hr i hi
 have hs0 := (Array.getElem?_eq_some_iff.1 i0).1
 have hs1 := (Array.getElem?_eq_some_iff.1 i1).1
 have hO : OTW (w.setCell ⟨g, i * 3 + q, none⟩ (.int .i64 b)) (fun k => (P k ∧ k ≠ g) ∧ f k = j) (vs j) (ys j).f2 := h3.move (fun k hk _ => Below.heap_setCell w _ _ k hk.1.2)
 by_cases e : j = i
 ·subst e
  simp only [↓reduceIte]
  rcases hy with ⟨rfl, rfl⟩ | ⟨rfl, rfl⟩
  ·refine ⟨?_, ?_, ?_, hO⟩
   ·rw [Array.getElem?_setIfInBounds, if_pos (by omega), if_pos (by omega)]
   ·rw [Array.getElem?_setIfInBounds, if_neg (by omega)]; exact h1
   ·rw [Array.getElem?_setIfInBounds, if_neg (by omega)]; exact h2
  ·refine ⟨?_, ?_, ?_, hO⟩
   ·rw [Array.getElem?_setIfInBounds, if_neg (by omega)]; exact h0
   ·rw [Array.getElem?_setIfInBounds, if_pos (by omega), if_pos (by omega)]
   ·rw [Array.getElem?_setIfInBounds, if_neg (by omega)]; exact h2
 ·simp only [if_neg e]
  have hq : q = 0 ∨ q = 1 := by rcases hy with h | h <;> simp [h.1]
  refine ⟨?_, ?_, ?_, hO⟩
  ·rw [Array.getElem?_setIfInBounds, if_neg (by omega)]; exact h0
  ·rw [Array.getElem?_setIfInBounds, if_neg (by omega)]; exact h1
  ·rw [Array.getElem?_setIfInBounds, if_neg (by omega)]; exact h2
theorem RWW.call {w w1 : World} {P : Nat → Prop} {g n : Nat} {f : Nat → Nat} {vs : Nat → Value} {ys : Nat → S81} (h : RWW w P g n f vs ys) (i : Nat) (l : List S81) (hk : Kept w w1 (fun k => (P k ∧ k ≠ g) ∧ f k = i)) (hO : OTW w1 (fun k => (P k ∧ k ≠ g) ∧ f k = i) (vs i) l) : RWW w1 P g n f vs (fun j => if j = i then ⟨(ys i).f0, (ys i).f1, l⟩ else ys j) := by
 obtain ⟨cur, hb, hr⟩ := h
 refine ⟨cur, blk_kept hb hk (fun hg => hg.1.2 rfl), fun j hj => ?_⟩
 obtain ⟨h0, h1, h2, h3⟩ := hr j hj
 by_cases e : j = i
 ·subst e
  simp only [↓reduceIte]
  exact ⟨h0, h1, h2, hO⟩
 ·simp only [if_neg e]
  exact ⟨h0, h1, h2, h3.kept hk (fun k h4 h5 => e (h4.2.symm.trans h5.2))⟩
theorem OTW.rw_of {w : World} {P : Nat → Prop} {v : Value} {xs : List S81} (h : OTW w P v xs) : ∃ A c, v = .slice A xs.length c ∧ xs.length ≤ c ∧ xs.length ≤ 9223372036854775807 ∧ ∃ f vs, 0 < xs.length → ∃ g, A = some ⟨g, 0, none⟩ ∧ P g ∧ RWW w P g xs.length f vs (fun j => xs.getD j z81) := by
 cases h with
 | nil _ A c => exact ⟨A, c, rfl, by simp, by simp, fun _ => 0, fun _ => undef, fun h => absurd h (by simp)⟩
 | row cur f vs hp hc hm hg hb hcell hk =>
  refine ⟨_, _, rfl, hc, hm, f, vs, fun _ => ⟨_, rfl, hg, cur, hb, fun j hj => ?_⟩⟩
  have hx : xs[j]? = some (xs.getD j z81) := by rw [List.getD_eq_getElem?_getD, List.getElem?_eq_getElem hj]; rfl
  obtain ⟨h0, h1, h2⟩ := hcell j _ hx
  exact ⟨h0, h1, h2, hk j _ hx⟩
theorem OTW.of_rw {w : World} {P : Nat → Prop} {g n cap : Nat} {f : Nat → Nat} {vs : Nat → Value} {ys : Nat → S81} (h : RWW w P g n f vs ys) (hg : P g) (hp : 0 < n) (hc : n ≤ cap) (hm : n ≤ 9223372036854775807) (xs : List S81) (hn : xs.length = n) (hx : ∀ j x, xs[j]? = some x → ys j = x) : OTW w P (.slice (some ⟨g, 0, none⟩) n cap) xs := by
 subst hn
 obtain ⟨cur, hb, hr⟩ := h
 have hlt : ∀ j x, xs[j]? = some x → j < xs.length := fun j x h => (List.getElem?_eq_some_iff.1 h).1
 refine .row cur f vs hp hc hm hg hb (fun j x h => ?_) (fun j x h => ?_)
 ·obtain ⟨h0, h1, h2, _⟩ := hr j (hlt j x h)
  rw [hx j x h] at h0 h1
  exact ⟨h0, h1, h2⟩
 ·have h3 := (hr j (hlt j x h)).2.2.2
  rw [hx j x h] at h3
  exact h3
set_option maxHeartbeats 1600000 in
set_option maxRecDepth 100000 in
theorem markExS_anyW : ∀ (d : Nat) (xs : List S81), SizeOf.sizeOf xs < d → ∀ (P : Nat → Prop) (v : Value) (a : Int) (w0 w : World), Below w0.heap.size w0 w → (∀ k, P k → w0.heap.size ≤ k) → OTW w P v xs → 0 ≤ a → a + 2 * nLW xs ≤ 2305843009213693952 →
  Calls Try.prog 107 #[v, .int .i64 a] w fun e w' => e = .returned (.int .i64 (a + 2 * nLW xs)) ∧ OTW w' P v (mkLW xs a) ∧ Below w0.heap.size w0 w' ∧ Kept w w' P := by
 intro d
 induction d with
 | zero => exact fun xs h => absurd h (Nat.not_lt_zero _)
 | succ d ih =>
  intro xs hd P v a w0 w hB hP hO ha0 ha1
  obtain ⟨A, c, ev, hlc, hmax, f, vs, hrw⟩ := hO.rw_of
  subst ev
  have HIH := Aside0.mk ih
  have HD := Aside0.mk hd
  have HP := Aside0.mk hP
  have HF := Aside0.mk (fun h => (hrw h).imp (fun g hg => (⟨hg.1, hg.2.1⟩ : A = some ⟨g, 0, none⟩ ∧ P g)))
  have HR := Aside0.mk (show ∃ ys : Nat → S81, (∀ g, A = some ⟨g, 0, none⟩ → 0 < xs.length → RWW w P g xs.length f vs ys) ∧ ∀ j x, xs[j]? = some x → ys j = if j < 0 then mkTW x (a + 2 * nLW (xs.take j)) else x from
   ⟨fun j => xs.getD j z81, fun g hg hp => by obtain ⟨g', hg', _, hr⟩ := hrw hp; rw [hg] at hg'; cases hg'; exact hr, fun j x hx => by rw [if_neg (by omega)]; show xs.getD j z81 = x; rw [List.getD_eq_getElem?_getD, hx]; rfl⟩)
  have HB := Aside0.mk hB
  have HK := Aside0.mk (Kept.refl w P)
  have HA := Aside0.mk ha1
  clear hO hB hP hrw ih hd ha1
  go_enter Try.func107, Try.ntmps107
  go_wp2
  go_loopg [1, 5] xs.length (fun gg v1 v5 wr => ∃ kk : Nat, v1 = .int .i64 (a + 2 * nLW (xs.take kk)) ∧ v5 = .int .i64 kk ∧ kk ≤ xs.length ∧ xs.length - kk ≤ gg ∧ Aside0 (∃ ys : Nat → S81, (∀ g, A = some ⟨g, 0, none⟩ → 0 < xs.length → RWW wr P g xs.length f vs ys) ∧ ∀ j x, xs[j]? = some x → ys j = if j < kk then mkTW x (a + 2 * nLW (xs.take j)) else x) ∧ Aside0 (Below w0.heap.size w0 wr) ∧ Aside0 (Kept w wr P))
  case atStart => exact ⟨0, by simp [nLW], rfl, Nat.zero_le _, by omega, HR, HB, HK⟩
  case round =>
   clear HR HB HK
   obtain ⟨kk, rfl, rfl, hk, hg, HR, HB, HK⟩ := hrel
   by_cases hlt : kk < xs.length
   ·obtain ⟨g, ea, hPg⟩ := HF.out (by omega)
    subst ea
    obtain ⟨ys, hr0, hys⟩ := HR.out
    have hr := hr0 g rfl (by omega)
    obtain ⟨x, hx⟩ : ∃ x, xs[kk]? = some x := ⟨_, List.getElem?_eq_getElem hlt⟩
    have hyk : ys kk = x := by rw [hys kk x hx, if_neg (by omega)]
    have hnt := nL_takeW xs kk x hx
    have hnl := nL_take_leW xs (kk + 1)
    have hA := HA.out
    have hnT := nT_eqW x
    have hd2 : SizeOf.sizeOf x.f2 < d := by
     have h1 := List.sizeOf_lt_of_mem (List.mem_of_getElem? hx)
     have h2 : SizeOf.sizeOf x.f2 < SizeOf.sizeOf x := by
      obtain ⟨a, b, l⟩ := x
      simp
      omega
     have := HD.out
     omega
    obtain ⟨b, hb⟩ : ∃ b : Int, b = a + 2 * nLW (xs.take kk) := ⟨_, rfl⟩
    rw [← hb]
    have hb0 : 0 ≤ b := by omega
    have hb2 : b + 2 + 2 * (nLW x.f2 : Int) ≤ 2305843009213693952 := by omega
    have e1 : IntKind.i64.wrap (b + 1) = b + 1 := IntWalk.i64_in _ (by omega)
    have e2 : IntKind.i64.wrap (b + 1 + 1) = b + 2 := (IntWalk.i64_in _ (by omega)).trans (by omega)
    have e3 : IntKind.i64.wrap ((kk : Int) + 1) = ((kk + 1 : Nat) : Int) := IntWalk.i64_in _ (by omega)
    have hltz : (kk : Int) < (xs.length : Int) := by omega
    have h0z : (0 : Int) ≤ (kk : Int) := by omega
    -- the first store
    have hr1 := hr.put kk hlt 0 b ⟨b, x.f1, x.f2⟩ (.inl ⟨rfl, by rw [hyk]⟩)
    have hr2 := hr1.put kk hlt 1 (b + 1) ⟨b, b + 1, x.f2⟩ (.inr ⟨rfl, by simp⟩)
    have hB2 := below_set (j := kk * 3 + 1) (v := .int .i64 (b + 1)) (below_set (j := kk * 3 + 0) (v := .int .i64 b) HB.out (HP.out g hPg)) (HP.out g hPg)
    obtain ⟨w1, hw1⟩ : ∃ w1, wr.setCell ⟨g, kk * 3 + 0, none⟩ (.int .i64 b) = w1 := ⟨_, rfl⟩
    rw [hw1] at hr1 hr2 hB2
    obtain ⟨w2, hw2⟩ : ∃ w2, w1.setCell ⟨g, kk * 3 + 1, none⟩ (.int .i64 (b + 1)) = w2 := ⟨_, rfl⟩
    rw [hw2] at hr2 hB2
    have hK2 : Kept wr w2 P := by
     rw [← hw2, ← hw1]
     exact ((Kept.refl wr P).setCell (.inl hPg) _).setCell (.inl hPg) _
    obtain ⟨cur, hcb, hcr⟩ := hr
    obtain ⟨c0, c1, c2, _⟩ := hcr kk hlt
    have x0 : wr.cell? ⟨g, kk * 3, none⟩ = some (.int .i64 (ys kk).f0) := (blk_cell hcb _).trans c0
    have f0 : wr.frozen? ⟨g, kk * 3, none⟩ = false := blk_frozen hcb _
    obtain ⟨cur1, hcb1, hcr1⟩ := hr1
    obtain ⟨c0, c1, c2, _⟩ := hcr1 kk hlt
    have x1 := (blk_cell hcb1 (kk * 3 + 1)).trans c1
    have f1 : w1.frozen? ⟨g, kk * 3 + 1, none⟩ = false := blk_frozen hcb1 _
    have hr3 := hr2
    obtain ⟨cur2, hcb2, hcr2⟩ := hr2
    obtain ⟨c0, c1, c2, hO2⟩ := hcr2 kk hlt
    have x2 : w2.cell? ⟨g, kk * 3 + 2, none⟩ = some (vs kk) := (blk_cell hcb2 (kk * 3 + 2)).trans c2
    simp only [if_true] at hO2
    have hcall := HIH.out x.f2 hd2 _ (vs kk) (b + 2) w0 w2 hB2 (fun k hk2 => HP.out k hk2.1.1) hO2 (by omega) hb2
    obtain ⟨A2, l2, ev2, _⟩ := hO2.reads
    have HR3 := Aside0.mk hr3
    have HK2 := Aside0.mk hK2
    have HYS := Aside0.mk hys
    have HX := Aside0.mk hx
    have HNT := Aside0.mk hnt
    have HBB := Aside0.mk hb
    have HN2 := Aside0.mk hnT
    obtain ⟨n2, hn2⟩ : ∃ n2, x.f2.length = n2 := ⟨_, rfl⟩
    rw [hn2] at ev2
    have HEV := Aside0.mk ev2
    rw [ev2] at x2 hcall
    replace hw1 : wr.setCell ⟨g, kk * 3, none⟩ (.int .i64 b) = w1 := hw1
    clear hr3 hcr hcr1 hcr2 hcb hcb1 hcb2 c0 c1 c2 hO2 hr0 hys hB2 hK2 hnt hnl hA hnT hb hx ev2 HR HB hn2
    clear hyk
    go_wp2_with (first
     | ((with_reducible refine gate_store (t := 3) (p := 16) rfl ?_); refine store_event (t := 3) (p := 16) (v := .int .i64 b) (w1 := w1) ?hg ?ho ?hn ?hr ?_; (case ho => rfl); (case hg => rfl); (case hn => rfl); (case hr => rw [← hw1]; first | (go_simp; done) | (go_simp; rfl)); intro w3 hw; rw [hw]; clear hw w3 x0 f0 hw1)
     | ((with_reducible refine gate_store (t := 3) (p := 23) rfl ?_); refine store_event (t := 3) (p := 23) (v := .int .i64 (b + 1)) (w1 := w2) ?hg ?ho ?hn ?hr ?_; (case ho => rfl); (case hg => rfl); (case hn => rfl); (case hr => rw [← hw2]; first | (go_simp; done) | (go_simp; rfl)); intro w3 hw; rw [hw]; clear hw w3 x1 f1 hw2)
     | (go_at_call 107; refine hcall.mono ?_; rintro e w3 ⟨rfl, hO3, hB3, hK3⟩; clear hcall))
    have n1_ := Aside0.mk (show ∃ ys : Nat → S81, (∀ g', some (⟨g, 0, none⟩ : Addr) = some ⟨g', 0, none⟩ → 0 < xs.length → RWW w3 P g' xs.length f vs ys) ∧ ∀ j y, xs[j]? = some y → ys j = if j < kk + 1 then mkTW y (a + 2 * nLW (xs.take j)) else y from by
     refine ⟨_, fun g' hg' _ => by cases hg'; exact HR3.out.call kk (mkLW x.f2 (b + 2)) hK3 (by rw [HEV.out]; exact hO3), fun j y hy => ?_⟩
     by_cases e : j = kk
     ·subst e
      have hxy : x = y := Option.some.inj (HX.out.symm.trans hy)
      subst hxy
      simp only [if_true]
      rw [if_pos (by omega), mkT_eqW, ← HBB.out]
     ·simp only [if_neg e]
      rw [HYS.out j y hy]
      by_cases hj : j < kk
      ·rw [if_pos hj, if_pos (by omega)]
      ·rw [if_neg hj, if_neg (by omega)])
    have n2_ := Aside0.mk ((HK.out.then_ HK2.out (fun k hk2 => .inl hk2)).then_ hK3 (fun k hk2 => .inl hk2.1.1))
    have n3_ := Aside0.mk hB3
    have n4_ : b + 2 + 2 * (nLW x.f2 : Int) = a + 2 * nLW (xs.take (kk + 1)) := by
     have := HNT.out; have := HBB.out; have := HN2.out; omega
    rw [n4_]
    clear hO3 hB3 hK3 HK
    go_roundg (gk - 1)
    case measure => omega
    case rel => exact ⟨kk + 1, rfl, rfl, by omega, by omega, n1_, n3_, n2_⟩
   ·obtain rfl : kk = xs.length := by omega
    obtain ⟨ys, hr0, hys⟩ := HR.out
    have HR2 := Aside0.mk hr0
    have HYS := Aside0.mk hys
    clear hr0 hys HR
    rw [List.take_length]
    go_wp2
    go_ret
    refine ⟨rfl, ?_, HB.out, HK.out⟩
    rcases Nat.eq_zero_or_pos xs.length with hz | hp
    ·obtain rfl := List.eq_nil_of_length_eq_zero hz
     rw [mkLW]
     exact .nil _ _ _ _
    ·obtain ⟨g, ea, hPg⟩ := HF.out hp
     subst ea
     refine OTW.of_rw (HR2.out g rfl hp) hPg hp hlc hmax _ (mkL_lengthW _ _) (fun j y hy => ?_)
     have hj : j < xs.length := by
      have := (List.getElem?_eq_some_iff.1 hy).1
      rwa [mkL_lengthW] at this
     have h1 := mkL_atW xs a j _ (List.getElem?_eq_getElem hj)
     rw [h1] at hy
     cases hy
     rw [HYS.out j _ (List.getElem?_eq_getElem hj), if_pos hj]
def laws_toWord.g (F_ : List (S75) → Option ((List (S81)))) (a0_0 : Int) (a0_1 : Int) (l0_2 : List (S75)) : Option (Int × Int × (List (S81))) := (F_ l0_2).bind fun t114 => (some (a0_0, a0_1, t114))
mutual
def laws_toWordS.l0 : Nat → List (S75) → List (S81) → Int → Option ((List (S81)))
 | 0, _, _, _ => none
 | k + 1, x0, x3, x4 => if x4 < (x0.length : Int) then (if 0 ≤ x4 then ((laws_toWord.g (laws_toWordS.f k) ((rd_T75 x0 x4).f0) ((rd_T75 x0 x4).f1) ((rd_T75 x0 x4).f2)).bind fun bt121 => (if x4 < (x3.length : Int) then (laws_toWordS.l0 k x0 (x3.set (x4 : Int).toNat (⟨bt121.1, bt121.2.1, bt121.2.2⟩ : S81)) (wrap64 (x4 + 1))) else (none))) else (none)) else (some x3)
def laws_toWordS.f : Nat → List (S75) → Option ((List (S81)))
 | 0, _ => none
 | k + 1, l0 => if 0 ≤ (l0.length : Int) then (if ((l0.length : Int) : Int).toNat ≤ 7036874417766 then (laws_toWordS.l0 k l0 (List.replicate ((l0.length : Int) : Int).toNat z81) 0) else (none)) else (none)
end
set_option maxHeartbeats 8000000 in
set_option maxRecDepth 100000 in
theorem toSW.calls_g (k : Nat) (hF_ : ∀ (A0 : Option Addr) (c0 : Nat) (l0 : List (S75)) (r : List (S81)) (w : World) (hr0 : Kd.C k75 w A0 l0.length l0) (hc0 : l0.length ≤ c0) (h : laws_toWordS.f k l0 = some r), Calls Try.prog 102 #[.slice A0 l0.length c0] w fun e w' => ∃ v0_ : Value, e = .returned (v0_) ∧ Kd.S kS81 81 w' w.heap.size (fun _ => True) v0_ r ∧ Below w.heap.size w w') (a0_0 : Int) (a0_1 : Int) (A0_2 : Option Addr) (c0_2 : Nat) (l0_2 : List (S75)) (r1 : Int) (r2 : Int) (r3 : List (S81)) (w : World) (hr0_2 : Kd.C k75 w A0_2 l0_2.length l0_2) (hc0_2 : l0_2.length ≤ c0_2) (h : laws_toWord.g (laws_toWordS.f k) a0_0 a0_1 l0_2 = some (r1, r2, r3)) :
  Calls Try.prog 48 #[.agg #[.int .i64 a0_0, .int .i64 a0_1, .slice A0_2 l0_2.length c0_2]] w fun e w' => ∃ v2_ : Value, e = .returned (.agg #[.int .i64 r1, .int .i64 r2, v2_]) ∧ Kd.S kS81 81 w' w.heap.size (fun _ => True) v2_ r3 ∧ Below w.heap.size w w' := by
 have hu24 := Try.underlying75
 have hu31 := Try.underlying81
 have HR0_2 := Aside0.mk hr0_2
 have HC0_2 := Aside0.mk hc0_2
 clear hr0_2 hc0_2
 have HB := Aside0.mk (Below.refl w.heap.size w)
 have H : ((laws_toWordS.f k l0_2).bind fun t114 => (some (a0_0, a0_1, t114))) = some (r1, r2, r3) := h
 clear h
 replace H := Option.bind_eq_some_iff.mp H
 obtain ⟨t114, A20, H⟩ := H
 replace H : (some (a0_0, a0_1, t114)) = some (r1, r2, r3) := H
 have A2 := Aside0.mk A20
 clear A20
 simp only [Option.some.injEq, Prod.mk.injEq] at H
 obtain ⟨rfl, rfl, rfl⟩ := H
 go_enter Try.func48, Try.ntmps48
 go_wp2_with (first | ((with_reducible refine gate_dst (N := 1) rfl ?_); refine box_event ?hg (N := 1) ?hd (cs := #[.int .i64 a0_0, .int .i64 a0_1, .slice A0_2 l0_2.length c0_2]) (t := 75) ?hr ?_; (case hd => rfl); (case hg => rfl); (case hr => first | (go_simp; done) | (go_simp; rfl)); intro gb111 hg w3 hbox hb; have n0_ := Aside0.mk (below_step (by repeat (first | (with_reducible first | exact HB.out | apply below_alloc | apply pw_below_drewN | apply below_drew1) | exact HB.out)) hb); have n1_ := Aside0.mk (hbox); have n2_ := Aside0.mk ((by rw [hg]; exact (below_size (by repeat (first | (with_reducible first | exact HB.out | apply below_alloc | apply pw_below_drewN | apply below_drew1) | exact HB.out))) : w.heap.size ≤ gb111)); have n3_ := Aside0.mk ((by rw [hg]; exact (below_size (by repeat (first | (with_reducible first | exact HB.out | apply below_alloc | apply pw_below_drewN | apply below_drew1) | exact HB.out))) : w.heap.size ≤ gb111)); clear HB; have HB := n0_; have BK111 := n1_; have GW111 := n2_; have GE111 := n3_; clear n0_ n1_ n2_ n3_; clear hb hbox hg) | ((with_reducible refine gate_dst (N := 2) rfl ?_); refine box_event ?hg (N := 2) ?hd (cs := #[.int .i64 0, .int .i64 0, .slice none 0 0]) (t := 81) ?hr ?_; (case hd => rfl); (case hg => rfl); (case hr => first | (go_simp; done) | (go_simp; rfl)); intro gb112 hg w4 hbox hb; have n0_ := Aside0.mk (blk_below (g := gb111) (o := .cells #[.int .i64 a0_0, .int .i64 a0_1, .slice A0_2 l0_2.length c0_2] 75 (0, 0)) (by (with_reducible repeat (first | refine blk_drewN ?_ _ | refine blk_drew ?_ | refine blk_alloc ?_ _)); exact BK111.out) hb); have n1_ := Aside0.mk (below_step (by repeat (first | (with_reducible first | exact HB.out | apply below_alloc | apply pw_below_drewN | apply below_drew1 | refine below_set ?_ GE111.out) | exact HB.out)) hb); have n2_ := Aside0.mk (hbox); have n3_ := Aside0.mk ((by rw [hg]; exact (below_size (by repeat (first | (with_reducible first | exact HB.out | apply below_alloc | apply pw_below_drewN | apply below_drew1 | refine below_set ?_ GE111.out) | exact HB.out))) : w.heap.size ≤ gb112)); have n4_ := Aside0.mk ((by rw [hg]; exact (below_size (by repeat (first | (with_reducible first | exact HB.out | apply below_alloc | apply pw_below_drewN | apply below_drew1 | refine below_set ?_ GE111.out) | exact HB.out))) : w.heap.size ≤ gb112)); have n5_ := Aside0.mk ((by rw [hg]; exact Nat.ne_of_lt (blk_lt (g := gb111) (o := .cells #[.int .i64 a0_0, .int .i64 a0_1, .slice A0_2 l0_2.length c0_2] 75 (0, 0)) (by (with_reducible repeat (first | refine blk_drewN ?_ _ | refine blk_drew ?_ | refine blk_alloc ?_ _)); exact BK111.out)) : gb111 ≠ gb112)); have n6_ := Aside0.mk ((by rw [hg]; exact Nat.ne_of_gt (blk_lt (g := gb111) (o := .cells #[.int .i64 a0_0, .int .i64 a0_1, .slice A0_2 l0_2.length c0_2] 75 (0, 0)) (by (with_reducible repeat (first | refine blk_drewN ?_ _ | refine blk_drew ?_ | refine blk_alloc ?_ _)); exact BK111.out)) : gb112 ≠ gb111)); clear BK111; clear HB; have BK111 := n0_; have HB := n1_; have BK112 := n2_; have GW112 := n3_; have GE112 := n4_; have NB111_112 := n5_; have NB112_111 := n6_; clear n0_ n1_ n2_ n3_ n4_ n5_ n6_; clear hb hbox hg) | ((with_reducible refine gate_dst (N := 3) rfl ?_); refine box_event ?hg (N := 3) ?hd (cs := #[.int .i64 0, .int .i64 0, .slice none 0 0]) (t := 81) ?hr ?_; (case hd => rfl); (case hg => rfl); (case hr => first | (go_simp; done) | (go_simp; rfl)); intro gb113 hg w5 hbox hb; have n0_ := Aside0.mk (blk_below (g := gb111) (o := .cells #[.int .i64 a0_0, .int .i64 a0_1, .slice A0_2 l0_2.length c0_2] 75 (0, 0)) (by (with_reducible repeat (first | refine blk_drewN ?_ _ | refine blk_drew ?_ | refine blk_alloc ?_ _)); exact BK111.out) hb); have n1_ := Aside0.mk (blk_below (g := gb112) (o := .cells #[.int .i64 0, .int .i64 0, .slice none 0 0] 81 (0, 0)) (by (with_reducible repeat (first | refine blk_drewN ?_ _ | refine blk_drew ?_ | refine blk_alloc ?_ _)); exact BK112.out) hb); have n2_ := Aside0.mk (below_step (by repeat (first | (with_reducible first | exact HB.out | apply below_alloc | apply pw_below_drewN | apply below_drew1 | refine below_set ?_ GE111.out | refine below_set ?_ GE112.out) | exact HB.out)) hb); have n3_ := Aside0.mk (hbox); have n4_ := Aside0.mk ((by rw [hg]; exact (below_size (by repeat (first | (with_reducible first | exact HB.out | apply below_alloc | apply pw_below_drewN | apply below_drew1 | refine below_set ?_ GE111.out | refine below_set ?_ GE112.out) | exact HB.out))) : w.heap.size ≤ gb113)); have n5_ := Aside0.mk ((by rw [hg]; exact (below_size (by repeat (first | (with_reducible first | exact HB.out | apply below_alloc | apply pw_below_drewN | apply below_drew1 | refine below_set ?_ GE111.out | refine below_set ?_ GE112.out) | exact HB.out))) : w.heap.size ≤ gb113)); have n6_ := Aside0.mk ((by rw [hg]; exact Nat.ne_of_lt (blk_lt (g := gb111) (o := .cells #[.int .i64 a0_0, .int .i64 a0_1, .slice A0_2 l0_2.length c0_2] 75 (0, 0)) (by (with_reducible repeat (first | refine blk_drewN ?_ _ | refine blk_drew ?_ | refine blk_alloc ?_ _)); exact BK111.out)) : gb111 ≠ gb113)); have n7_ := Aside0.mk ((by rw [hg]; exact Nat.ne_of_gt (blk_lt (g := gb111) (o := .cells #[.int .i64 a0_0, .int .i64 a0_1, .slice A0_2 l0_2.length c0_2] 75 (0, 0)) (by (with_reducible repeat (first | refine blk_drewN ?_ _ | refine blk_drew ?_ | refine blk_alloc ?_ _)); exact BK111.out)) : gb113 ≠ gb111)); have n8_ := Aside0.mk ((by rw [hg]; exact Nat.ne_of_lt (blk_lt (g := gb112) (o := .cells #[.int .i64 0, .int .i64 0, .slice none 0 0] 81 (0, 0)) (by (with_reducible repeat (first | refine blk_drewN ?_ _ | refine blk_drew ?_ | refine blk_alloc ?_ _)); exact BK112.out)) : gb112 ≠ gb113)); have n9_ := Aside0.mk ((by rw [hg]; exact Nat.ne_of_gt (blk_lt (g := gb112) (o := .cells #[.int .i64 0, .int .i64 0, .slice none 0 0] 81 (0, 0)) (by (with_reducible repeat (first | refine blk_drewN ?_ _ | refine blk_drew ?_ | refine blk_alloc ?_ _)); exact BK112.out)) : gb113 ≠ gb112)); clear BK111; clear BK112; clear HB; have BK111 := n0_; have BK112 := n1_; have HB := n2_; have BK113 := n3_; have GW113 := n4_; have GE113 := n5_; have NB111_113 := n6_; have NB113_111 := n7_; have NB112_113 := n8_; have NB113_112 := n9_; clear n0_ n1_ n2_ n3_ n4_ n5_ n6_ n7_ n8_ n9_; clear hb hbox hg; have hnb6 := NB111_112.out; have hnc6 := NB112_111.out; have hnb7 := NB111_113.out; have hnc7 := NB113_111.out; have hcz8_0 : w5.cell? ⟨gb111, 0, none⟩ = some (.int .i64 a0_0) := (blk_cell BK111.out 0).trans rfl; have hcz8_1 : w5.cell? ⟨gb111, 1, none⟩ = some (.int .i64 a0_1) := (blk_cell BK111.out 1).trans rfl; have hcz8_2 : w5.cell? ⟨gb111, 2, none⟩ = some (.slice A0_2 l0_2.length c0_2) := (blk_cell BK111.out 2).trans rfl; have hfz8_0 := blk_frozen BK111.out 0; have hfz8_1 := blk_frozen BK111.out 1; have hfz8_2 := blk_frozen BK111.out 2; have hnb9 := NB113_112.out; have hnc9 := NB112_113.out; have hcz10_0 : w5.cell? ⟨gb113, 0, none⟩ = some (.int .i64 0) := (blk_cell BK113.out 0).trans rfl; have hcz10_1 : w5.cell? ⟨gb113, 1, none⟩ = some (.int .i64 0) := (blk_cell BK113.out 1).trans rfl; have hcz10_2 : w5.cell? ⟨gb113, 2, none⟩ = some (.slice none 0 0) := (blk_cell BK113.out 2).trans rfl; have hfz10_0 := blk_frozen BK113.out 0; have hfz10_1 := blk_frozen BK113.out 1; have hfz10_2 := blk_frozen BK113.out 2) | ((with_reducible refine gate_callee (f := 102) rfl ?_); refine goesL_ (some 12) rfl rfl Try.func102 (by kernel_rfl) rfl #[.slice A0_2 l0_2.length c0_2] rfl (by (try simp only [List.map_toArray, List.map_cons, List.map_nil]); first | done | rfl | (simp only [List.length_drop, List.length_take]; rfl)) ?_; (with_reducible refine (hF_ _ _ l0_2 t114 _ ?side1 ?side2 A2.out).mono ?_); (case side1 => exact Kd.C_below HR0_2.out (by repeat (first | (with_reducible first | exact HB.out | apply below_alloc | apply pw_below_drewN | apply below_drew1 | refine below_set ?_ GE111.out | refine below_set ?_ GE112.out | refine below_set ?_ GE113.out) | exact HB.out))); (case side2 => exact HC0_2.out); rintro e w11 ⟨v115, rfl, ho0, hb⟩; refine ⟨_, rfl, ?_⟩; have n0_ := Aside0.mk (Kd.S_lower (Kd.S_newB (Kd.S_newB ho0 (g := gb112) (o := .cells #[.int .i64 0, .int .i64 0, .slice none 0 0] 81 (0, 0)) (by (with_reducible repeat (first | refine blk_drewN ?_ _ | refine blk_drew ?_ | refine blk_alloc ?_ _)); refine blk_far ?_ NB112_113.out _; (with_reducible repeat (first | refine blk_drewN ?_ _ | refine blk_drew ?_ | refine blk_alloc ?_ _)); refine blk_far ?_ NB112_113.out _; (with_reducible repeat (first | refine blk_drewN ?_ _ | refine blk_drew ?_ | refine blk_alloc ?_ _)); exact BK112.out)) (g := gb113) (o := .cells #[.int .i64 a0_0, .int .i64 a0_1, .slice none 0 0] 81 (0, 0)) (by (with_reducible repeat (first | refine blk_drewN ?_ _ | refine blk_drew ?_ | refine blk_alloc ?_ _)); refine blk_put (cs := #[.int .i64 a0_0, .int .i64 0, .slice none 0 0]) ?_ 1 _ rfl; (with_reducible repeat (first | refine blk_drewN ?_ _ | refine blk_drew ?_ | refine blk_alloc ?_ _)); refine blk_put (cs := #[.int .i64 0, .int .i64 0, .slice none 0 0]) ?_ 0 _ rfl; (with_reducible repeat (first | refine blk_drewN ?_ _ | refine blk_drew ?_ | refine blk_alloc ?_ _)); exact BK113.out)) (below_size (by repeat (first | (with_reducible first | exact HB.out | apply below_alloc | apply pw_below_drewN | apply below_drew1 | refine below_set ?_ GE111.out | refine below_set ?_ GE112.out | refine below_set ?_ GE113.out) | exact HB.out)))); have n1_ := Aside0.mk (blk_below (g := gb111) (o := .cells #[.int .i64 a0_0, .int .i64 a0_1, .slice A0_2 l0_2.length c0_2] 75 (0, 0)) (by (with_reducible repeat (first | refine blk_drewN ?_ _ | refine blk_drew ?_ | refine blk_alloc ?_ _)); refine blk_far ?_ NB111_113.out _; (with_reducible repeat (first | refine blk_drewN ?_ _ | refine blk_drew ?_ | refine blk_alloc ?_ _)); refine blk_far ?_ NB111_113.out _; (with_reducible repeat (first | refine blk_drewN ?_ _ | refine blk_drew ?_ | refine blk_alloc ?_ _)); exact BK111.out) hb); have n2_ := Aside0.mk (blk_below (g := gb112) (o := .cells #[.int .i64 0, .int .i64 0, .slice none 0 0] 81 (0, 0)) (by (with_reducible repeat (first | refine blk_drewN ?_ _ | refine blk_drew ?_ | refine blk_alloc ?_ _)); refine blk_far ?_ NB112_113.out _; (with_reducible repeat (first | refine blk_drewN ?_ _ | refine blk_drew ?_ | refine blk_alloc ?_ _)); refine blk_far ?_ NB112_113.out _; (with_reducible repeat (first | refine blk_drewN ?_ _ | refine blk_drew ?_ | refine blk_alloc ?_ _)); exact BK112.out) hb); have n3_ := Aside0.mk (blk_below (g := gb113) (o := .cells #[.int .i64 a0_0, .int .i64 a0_1, .slice none 0 0] 81 (0, 0)) (by (with_reducible repeat (first | refine blk_drewN ?_ _ | refine blk_drew ?_ | refine blk_alloc ?_ _)); refine blk_put (cs := #[.int .i64 a0_0, .int .i64 0, .slice none 0 0]) ?_ 1 _ rfl; (with_reducible repeat (first | refine blk_drewN ?_ _ | refine blk_drew ?_ | refine blk_alloc ?_ _)); refine blk_put (cs := #[.int .i64 0, .int .i64 0, .slice none 0 0]) ?_ 0 _ rfl; (with_reducible repeat (first | refine blk_drewN ?_ _ | refine blk_drew ?_ | refine blk_alloc ?_ _)); exact BK113.out) hb); have n4_ := Aside0.mk (below_step (by repeat (first | (with_reducible first | exact HB.out | apply below_alloc | apply pw_below_drewN | apply below_drew1 | refine below_set ?_ GE111.out | refine below_set ?_ GE112.out | refine below_set ?_ GE113.out) | exact HB.out)) hb); clear BK111; clear BK112; clear BK113; clear HB; have HO116 := n0_; have BK111 := n1_; have BK112 := n2_; have BK113 := n3_; have HB := n4_; clear n0_ n1_ n2_ n3_ n4_; (try clear hb); (try clear hb2); (try clear hk); (try clear hi); (try clear ho0); obtain ⟨Ao12, co12, eo12⟩ := Kd.S_slice HO116.out; subst eo12; have hcz13_0 : w11.cell? ⟨gb113, 0, none⟩ = some (.int .i64 a0_0) := (blk_cell BK113.out 0).trans rfl; have hcz13_1 : w11.cell? ⟨gb113, 1, none⟩ = some (.int .i64 a0_1) := (blk_cell BK113.out 1).trans rfl; have hcz13_2 : w11.cell? ⟨gb113, 2, none⟩ = some (.slice none 0 0) := (blk_cell BK113.out 2).trans rfl; have hfz13_0 := blk_frozen BK113.out 0; have hfz13_1 := blk_frozen BK113.out 1; have hfz13_2 := blk_frozen BK113.out 2; have hcz14_0 : w11.cell? ⟨gb112, 0, none⟩ = some (.int .i64 0) := (blk_cell BK112.out 0).trans rfl; have hcz14_1 : w11.cell? ⟨gb112, 1, none⟩ = some (.int .i64 0) := (blk_cell BK112.out 1).trans rfl; have hcz14_2 : w11.cell? ⟨gb112, 2, none⟩ = some (.slice none 0 0) := (blk_cell BK112.out 2).trans rfl; have hfz14_0 := blk_frozen BK112.out 0; have hfz14_1 := blk_frozen BK112.out 1; have hfz14_2 := blk_frozen BK112.out 2))
 refine bodyPost_ret (results_cell_row rfl _ _ gb112 81 #[.int .i64 a0_0, .int .i64 a0_1, .slice Ao12 t114.length co12] (0, 0) _ rfl (by (with_reducible repeat (first | refine blk_drewN ?_ _ | refine blk_drew ?_ | refine blk_alloc ?_ _)); refine blk_put (cs := #[.int .i64 a0_0, .int .i64 a0_1, .slice none 0 0]) ?_ 2 _ rfl; (with_reducible repeat (first | refine blk_drewN ?_ _ | refine blk_drew ?_ | refine blk_alloc ?_ _)); refine blk_put (cs := #[.int .i64 a0_0, .int .i64 0, .slice none 0 0]) ?_ 1 _ rfl; (with_reducible repeat (first | refine blk_drewN ?_ _ | refine blk_drew ?_ | refine blk_alloc ?_ _)); refine blk_put (cs := #[.int .i64 0, .int .i64 0, .slice none 0 0]) ?_ 0 _ rfl; (with_reducible repeat (first | refine blk_drewN ?_ _ | refine blk_drew ?_ | refine blk_alloc ?_ _)); refine blk_far ?_ NB112_113.out _; (with_reducible repeat (first | refine blk_drewN ?_ _ | refine blk_drew ?_ | refine blk_alloc ?_ _)); exact BK112.out) Try.underlying81 rfl (by kernel_rfl)) rfl ?_
 exact ⟨_, by first | rfl | (simp [errW_none, errW_some] <;> rfl) | (simp [*, errW_none, errW_some] <;> rfl), by (with_reducible repeat (first | apply Kd.S_alloc | apply Kd.S_drewN | apply Kd.S_drew)); exact Kd.S_mono (Kd.S_far (p := ⟨gb112, 2, none⟩) (Kd.S_far (p := ⟨gb112, 1, none⟩) (Kd.S_far (p := ⟨gb112, 0, none⟩) (Kd.S_far (p := ⟨gb113, 2, none⟩) (Kd.S_mono (Kd.S_mono HO116.out (fun k_ hk => (⟨hk, hk.2⟩ : _ ∧ k_ ≠ gb113))) (fun k_ hk => (⟨hk, hk.1.1.2⟩ : _ ∧ k_ ≠ gb112))) (fun _ hk => hk.1.2) (.slice Ao12 t114.length co12)) (fun _ hk => hk.2) (.int .i64 a0_0)) (fun _ hk => hk.2) (.int .i64 a0_1)) (fun _ hk => hk.2) (.slice Ao12 t114.length co12)) (fun _ hk => trivial), by repeat (first | (with_reducible first | exact HB.out | apply below_alloc | apply pw_below_drewN | apply below_drew1 | refine below_set ?_ GE111.out | refine below_set ?_ GE112.out | refine below_set ?_ GE113.out) | exact HB.out)⟩
set_option maxHeartbeats 8000000 in
set_option maxRecDepth 100000 in
theorem toSSW.calls (k : Nat) : ∀ (A0 : Option Addr) (c0 : Nat) (l0 : List (S75)) (r : List (S81)) (w : World) (hr0 : Kd.C k75 w A0 l0.length l0) (hc0 : l0.length ≤ c0) (h : laws_toWordS.f k l0 = some r),
  Calls Try.prog 102 #[.slice A0 l0.length c0] w fun e w' => ∃ v0_ : Value, e = .returned (v0_) ∧ Kd.S kS81 81 w' w.heap.size (fun _ => True) v0_ r ∧ Below w.heap.size w w' := by
 induction k using Nat.strongRecOn with
 | _ k ih =>
 intro A0 c0 l0 r w hr0 hc0 h
 cases k with
 | zero => exact absurd h (by simp [laws_toWordS.f])
 | succ k =>
 simp only [laws_toWordS.f] at h
 have hu24 := Try.underlying75
 have hu31 := Try.underlying81
 have HR0 := Aside0.mk hr0
 have HC0 := Aside0.mk hc0
 clear hr0 hc0
 have HB := Aside0.mk (Below.refl w.heap.size w)
 have H : (if 0 ≤ (l0.length : Int) then (if ((l0.length : Int) : Int).toNat ≤ 7036874417766 then (laws_toWordS.l0 k l0 (List.replicate ((l0.length : Int) : Int).toNat z81) 0) else (none)) else (none)) = some r := h
 clear h
 by_cases c2 : 0 ≤ (l0.length : Int)
 ·rw [if_pos c2] at H
  have c2b0 := eq_true c2
  have c2b1 : decide (0 ≤ (l0.length : Int)) = true := decide_eq_true c2
  clear c2
  by_cases c3 : ((l0.length : Int) : Int).toNat ≤ 7036874417766
  ·rw [if_pos c3] at H
   have c3b0 := eq_true c3
   have c3b1 : decide (((l0.length : Int) : Int).toNat ≤ 7036874417766) = true := decide_eq_true c3
   clear c3
   obtain ⟨y117, hy117⟩ : ∃ y_ : List (S81), y_ = (List.replicate ((l0.length : Int) : Int).toNat z81) := ⟨_, rfl⟩
   replace H : (laws_toWordS.l0 k l0 y117 0) = some r := by first | (rw [hy117]; with_reducible exact H) | (have H2_ := (Option.bind_some _ _).symm.trans H; rw [hy117]; with_reducible exact H2_) | (have H2_ := (Option.bind_some _ _).symm.trans H; with_reducible exact H2_) | with_reducible exact H | (rw [hy117]; exact H) | exact H
   have Ny117 := Aside0.mk hy117
   clear hy117
   have H' := Aside0.mk H
   clear H
   go_enter Try.func102, Try.ntmps102
   go_wp2_with (first | ((with_reducible refine gate_dst (N := 7) rfl ?_); refine Kd.S_make kS81 _ 81 rfl (N := 7) rfl 79 _ _ rfl (l0.length : Int) rfl rfl Try.underlying79 (.agg #[(.int .i64 0), (.int .i64 0), (.slice none 0 0)]) 40 info81 rfl (by decide) (by omega) z81 (ok := fun _ => True) (okp := fun _ => True) (kS81_mkM _ _ _ z81 (Kd.S_nil _ _ _ _ _)) (fun _ hk => hk) trivial (of_decide_eq_true (by first | (with_reducible assumption) | assumption)) (Nat.le_trans (Nat.mul_le_mul_right _ (of_decide_eq_true (by first | (with_reducible assumption) | assumption) : (l0.length : Int).toNat ≤ 7036874417766)) (by omega)) (Below.refl _ _) (Nat.le_refl _) ?_; intro v118 w4 ho5 hb hg_ hnew_; clear hg_ hnew_; (first | rw [← Ny117.out] at ho5 | (simp only [Int.reduceToNat] at ho5; rw [← Ny117.out] at ho5)); have n0_ := Aside0.mk (Kd.S_lower ho5 (below_size (by repeat (first | (with_reducible first | exact HB.out | apply below_alloc | apply pw_below_drewN | apply below_drew1) | exact HB.out)))); have n1_ := Aside0.mk (below_step (by repeat (first | (with_reducible first | exact HB.out | apply below_alloc | apply pw_below_drewN | apply below_drew1) | exact HB.out)) hb); clear HB; have HO119 := n0_; have HB := n1_; clear n0_ n1_; clear hb ho5))
   go_loopg [4] k (fun kq v4 w' => ∃ (x3_1 : List (S81)) (x4_1 : Int), v4 = .int .i64 x4_1 ∧ Aside0 (laws_toWordS.l0 kq l0 x3_1 x4_1 = some r) ∧ Aside0 (kq ≤ k) ∧ Aside0 (Kd.S kS81 81 w' w.heap.size (fun _ => True) v118 x3_1) ∧ Aside0 (Below w.heap.size w w'))
   case atStart => exact ⟨(y117), (0), (by first | rfl | (simp; done) | (simp [*]; done)), H', ⟨Nat.le_refl _⟩, ⟨by (with_reducible repeat (first | apply Kd.S_alloc | apply Kd.S_drewN | apply Kd.S_drew)); exact HO119.out⟩, ⟨by repeat (first | (with_reducible first | exact HB.out | apply below_alloc | apply pw_below_drewN | apply below_drew1) | exact HB.out)⟩⟩
   case round =>
    clear H'
    try clear c2
    try clear c2b0
    try clear c2b1
    try clear p2
    try clear c3
    try clear c3b0
    try clear c3b1
    obtain ⟨x3_1, x4_1, rfl, HA, HK1, HO_3, HB⟩ := hrel
    cases gk with
    | zero => exact absurd HA.out (by simp [laws_toWordS.l0])
    | succ k1 =>
     have H := HA.out
     clear HA
     simp only [laws_toWordS.l0] at H
     by_cases c6 : x4_1 < (l0.length : Int)
     ·rw [if_pos c6] at H
      have c6b0 : decide (x4_1 < (l0.length : Int)) = true := decide_eq_true c6
      clear c6
      by_cases c7 : 0 ≤ x4_1
      ·rw [if_pos c7] at H
       have c7b0 : decide (0 ≤ x4_1) = true := decide_eq_true c7
       clear c7
       replace H := Option.bind_eq_some_iff.mp H
       obtain ⟨⟨t121, t122, t123⟩, A80, H⟩ := H
       replace H : (if x4_1 < (x3_1.length : Int) then (laws_toWordS.l0 k1 l0 (x3_1.set (x4_1 : Int).toNat (⟨t121, t122, t123⟩ : S81)) (wrap64 (x4_1 + 1))) else (none)) = some r := H
       have A8 := Aside0.mk A80
       clear A80
       by_cases c9 : x4_1 < (x3_1.length : Int)
       ·rw [if_pos c9] at H
        have c9b0 : decide (x4_1 < (x3_1.length : Int)) = true := decide_eq_true c9
        clear c9
        obtain ⟨y126, hy126⟩ : ∃ y_ : List (S81), y_ = (x3_1.set (x4_1 : Int).toNat (⟨t121, t122, t123⟩ : S81)) := ⟨_, rfl⟩
        replace H : (laws_toWordS.l0 k1 l0 y126 (wrap64 (x4_1 + 1))) = some r := by first | (rw [hy126]; with_reducible exact H) | (have H2_ := (Option.bind_some _ _).symm.trans H; rw [hy126]; with_reducible exact H2_) | (have H2_ := (Option.bind_some _ _).symm.trans H; with_reducible exact H2_) | with_reducible exact H | (rw [hy126]; exact H) | exact H
        have Ny126 := Aside0.mk hy126
        clear hy126
        have H' := Aside0.mk H
        clear H
        have p120 : 0 ≤ (x4_1 : Int) := of_decide_eq_true (by first | (with_reducible assumption) | assumption)
        have q120 : x4_1 < (l0.length : Int) := of_decide_eq_true (by first | (with_reducible assumption) | assumption)
        obtain ⟨ad120, A120_2, c120_2, e120, hx120_0, hx120_1, hx120_2, hl120_2, hi120_2⟩ := at_T75 HR0.out x4_1 p120 q120
        cases e120
        replace hx120_0 := (HB.out.cell (World.block_lt_of_cell? w _ hx120_0)).trans hx120_0
        replace hx120_1 := (HB.out.cell (World.block_lt_of_cell? w _ hx120_1)).trans hx120_1
        replace hx120_2 := (HB.out.cell (World.block_lt_of_cell? w _ hx120_2)).trans hx120_2
        have HR120_2 := Aside0.mk hi120_2
        have HC120_2 := Aside0.mk hl120_2
        clear hi120_2 hl120_2
        replace p120 := eq_true p120
        replace q120 := eq_true q120
        go_wp2_with (first | ((with_reducible refine gate_callee (f := 48) rfl ?_); refine goesL_ (some 20) rfl rfl Try.func48 (by kernel_rfl) rfl #[.agg #[.int .i64 ((rd_T75 l0 x4_1).f0), .int .i64 ((rd_T75 l0 x4_1).f1), .slice A120_2 ((rd_T75 l0 x4_1).f2).length c120_2]] rfl (by (try simp only [List.map_toArray, List.map_cons, List.map_nil]); first | done | rfl | (simp only [List.length_drop, List.length_take]; rfl)) ?_; (with_reducible refine (toSW.calls_g k1 (fun A0 c0 l0 r w hr0 hc0 h => ih k1 (by first | omega | (have := HK1.out; omega) | (have := HJ1.out; omega) | (have := HK1.out; have := HJ1.out; omega) | (have := HK2.out; omega) | (have := HK1.out; have := HK2.out; omega)) A0 c0 l0 r w hr0 hc0 h) ((rd_T75 l0 x4_1).f0) ((rd_T75 l0 x4_1).f1) _ _ ((rd_T75 l0 x4_1).f2) t121 t122 t123 _ ?side1 ?side2 A8.out).mono ?_); (case side1 => repeat (first | exact (Kd.C_below HR120_2.out HB.out) | (with_reducible refine Kd.C_alloc ?_ _) | (with_reducible refine Kd.C_drewN ?_ _) | (with_reducible refine Kd.C_drew ?_))); (case side2 => exact HC120_2.out); rintro e w11 ⟨v124, rfl, ho0, hb⟩; refine ⟨_, rfl, ?_⟩; obtain ⟨N_, hoN_, hel_⟩ := S_tell hb ho0; have n0_ := Aside0.mk (hel_ (by (with_reducible repeat (first | apply Kd.S_alloc | apply Kd.S_drewN | apply Kd.S_drew)); exact HO_3.out)); have n1_ := Aside0.mk (Kd.S_lower (Kd.S_new' hoN_ (Kd.S_lt (by (with_reducible repeat (first | apply Kd.S_alloc | apply Kd.S_drewN | apply Kd.S_drew)); exact HO_3.out))) (below_size (by repeat (first | (with_reducible first | exact HB.out | apply below_alloc | apply pw_below_drewN | apply below_drew1) | exact HB.out)))); have n2_ := Aside0.mk (below_step (by repeat (first | (with_reducible first | exact HB.out | apply below_alloc | apply pw_below_drewN | apply below_drew1) | exact HB.out)) hb); clear HO_3; clear HB; have HO_3 := n0_; have HO125 := n1_; have HB := n2_; clear n0_ n1_ n2_; (try clear hb); (try clear hb2); (try clear hk); (try clear hi); (try clear ho0); have p10 : 0 ≤ (x4_1 : Int) := of_decide_eq_true (by first | (with_reducible assumption) | assumption); have q10 : (x4_1 : Int) < ((x3_1.length : Int) : Int) := of_decide_eq_true (by first | (with_reducible assumption) | assumption); obtain ⟨go10, co10, eo10, gb10, gl10, cl10, HG10⟩ := Kd.S_form HO_3.out (by omega); (first | cases eo10 | (injection eo10 with ea_ en_ ec_; (first | subst ea_ | (injection ea_ with ea_; subst ea_)); subst ec_; clear en_)); have GB10 := Aside0.mk gb10; have GG10 := Aside0.mk HG10; clear gb10 gl10 HG10; obtain ⟨oi10, ce10, hcl10, hM10, hcc10, hfr10, hoi10, hH10⟩ := Kd.S_elem HO_3.out z81 (x4_1 : Int) p10 q10; obtain ⟨ve10_2, rfl, ge10_2⟩ := kS81_openM hM10; have hx10_0 : w11.cell? ⟨go10, (x4_1 : Int).toNat * 3, none⟩ = some (.int .i64 ((rd_T81 x3_1 x4_1).f0)) := hcc10 0 _ rfl; have hx10_1 : w11.cell? ⟨go10, (x4_1 : Int).toNat * 3 + 1, none⟩ = some (.int .i64 ((rd_T81 x3_1 x4_1).f1)) := hcc10 1 _ rfl; have hx10_2 : w11.cell? ⟨go10, (x4_1 : Int).toNat * 3 + 2, none⟩ = some (ve10_2) := hcc10 2 _ rfl; have hf10_0 : w11.frozen? ⟨go10, (x4_1 : Int).toNat * 3, none⟩ = false := hfr10 0; have hf10_1 : w11.frozen? ⟨go10, (x4_1 : Int).toNat * 3 + 1, none⟩ = false := hfr10 1; have hf10_2 : w11.frozen? ⟨go10, (x4_1 : Int).toNat * 3 + 2, none⟩ = false := hfr10 2; clear hcl10 hcc10 hfr10 hoi10 hH10; (try clear hM10); replace p10 := eq_true p10; replace q10 := eq_true q10; have n_ := Aside0.mk (Kd.S_mono (ok' := (fun k_ => k_ < N_)) HO_3.out (fun k_ hk => hk.2)); clear HO_3; have HO_3 := n_; clear n_; have HX12 := Aside0.mk (show Kd.S kS81 81 w11 w.heap.size (fun k_ => True ∧ ¬ (N_ ≤ k_ ∧ k_ ≠ go10)) (.slice (some ⟨go10, 0, none⟩) x3_1.length co10) x3_1 from (by (with_reducible repeat (first | apply Kd.S_alloc | apply Kd.S_drewN | apply Kd.S_drew)); exact Kd.S_mono HO_3.out (fun _ hk => ⟨trivial, fun h_ => Nat.lt_irrefl _ (Nat.lt_of_lt_of_le hk h_.1)⟩))); obtain ⟨oi12, ce12, hcl12, hM12, hcc12, hfr12, hoi12, hH12⟩ := Kd.S_elem HX12.out z81 (x4_1 : Int) (of_decide_eq_true (by first | (with_reducible assumption) | assumption)) (by have h_ : (x4_1 : Int) < ((x3_1.length : Int) : Int) := of_decide_eq_true (by first | (with_reducible assumption) | assumption); first | exact h_ | (have e_ := (Kd.S_reads' HO_3.out).1; omega) | simpa using h_); obtain ⟨ve12_2, rfl, ge12_2⟩ := kS81_openM hM12; have HP12 := Kd.S_seg (ok := fun _ => True) (okg := fun k_ => N_ ≤ k_ ∧ k_ ≠ go10) (okp := fun k_ => N_ ≤ k_ ∧ k_ ≠ go10) hH12 (of_decide_eq_true (by first | (with_reducible assumption) | assumption)) (by have h_ : (x4_1 : Int) < ((x3_1.length : Int) : Int) := of_decide_eq_true (by first | (with_reducible assumption) | assumption); first | exact h_ | (have e_ := (Kd.S_reads' HO_3.out).1; omega) | simpa using h_) (seg := [.int .i64 t121, .int .i64 t122, v124]) (j := 0) (show 3 ≤ 3 from by decide) (x' := (⟨t121, t122, t123⟩ : S81)) (kS81_mkM _ _ _ (⟨t121, t122, t123⟩ : S81) (Kd.S_mono (HO125.out) (fun k_ hk => ⟨hk.1.2, fun e_ => hk.2 (by rw [e_]; rfl)⟩))) (fun _ hk => .inr hk) (fun _ hk => ⟨trivial, hk.2⟩); have hx12_0 := hcc12 0 _ rfl; (try simp only [show (kS81).sz = 3 from rfl, Nat.mul_one, Nat.add_zero] at hx12_0); have hf12_0 := hfr12 0; (try simp only [show (kS81).sz = 3 from rfl, Nat.mul_one, Nat.add_zero] at hf12_0); have hx12_1 := hcc12 1 _ rfl; (try simp only [show (kS81).sz = 3 from rfl, Nat.mul_one, Nat.add_zero] at hx12_1); have hf12_1 := hfr12 1; (try simp only [show (kS81).sz = 3 from rfl, Nat.mul_one, Nat.add_zero] at hf12_1); have hx12_2 := hcc12 2 _ rfl; (try simp only [show (kS81).sz = 3 from rfl, Nat.mul_one, Nat.add_zero] at hx12_2); have hf12_2 := hfr12 2; (try simp only [show (kS81).sz = 3 from rfl, Nat.mul_one, Nat.add_zero] at hf12_2); clear hcl12 hcc12 hfr12; (try clear hM12)) | ((with_reducible refine gate_store (t := 81) (p := 21) rfl ?_); refine store_event (t := 81) (p := 21) (v := ?vo_w13) (w1 := (((w11.setCell ⟨go10, (x4_1 : Int).toNat * 3, none⟩ (.int .i64 t121)).setCell ⟨go10, (x4_1 : Int).toNat * 3 + 1, none⟩ (.int .i64 t122)).setCell ⟨go10, (x4_1 : Int).toNat * 3 + 2, none⟩ (v124))) ?hg ?ho ?hn ?hr ?_; (case ho => rfl); (case hg => rfl); (case hn => rfl); (case hr => first | (go_simp; done) | (go_simp; rfl) | (obtain ⟨_, _, ev_⟩ := Kd.S_slice HO125.out; subst ev_; first | (go_simp; done) | (go_simp; rfl))); intro w13 hw; have hg : w11.grownBy w13 (some go10) := (by rw [hw]; exact HP12.2); have hp_ : Kd.S kS81 81 w13 w.heap.size (fun _ => True) (.slice (some ⟨go10, 0, none⟩) x3_1.length co10) y126 := (by rw [hw, Ny126.out]; exact HP12.1); clear HP12; have n0_ := Aside0.mk (hp_); have n1_ := Aside0.mk ((by rw [hw]; exact below_set (below_set (below_set (HB.out) GB10.out) GB10.out) GB10.out : Below w.heap.size w w13)); clear HO_3; clear HB; clear HO125; have HO_3 := n0_; have HB := n1_; clear n0_ n1_; clear hg hw hp_))
        go_roundg k1
        case measure => have := HK1.out; omega
        case rel => exact ⟨(y126), (wrap64 (x4_1 + 1)), (by first | rfl | (simp; done) | (simp [*]; done)), H', ⟨by have := HK1.out; omega⟩, ⟨by (with_reducible repeat (first | apply Kd.S_alloc | apply Kd.S_drewN | apply Kd.S_drew)); exact HO_3.out⟩, ⟨by repeat (first | (with_reducible first | exact HB.out | apply below_alloc | apply pw_below_drewN | apply below_drew1) | exact HB.out)⟩⟩
       ·rw [if_neg c9] at H
        exact absurd H (by simp)
      ·rw [if_neg c7] at H
       exact absurd H (by simp)
     ·rw [if_neg c6] at H
      have c6b0 : decide (x4_1 < (l0.length : Int)) = false := decide_eq_false c6
      clear c6
      obtain rfl := Option.some.inj H
      go_wp2
      go_ret
      exact ⟨_, by first | rfl | (simp [errW_none, errW_some] <;> rfl) | (simp [*, errW_none, errW_some] <;> rfl), by (with_reducible repeat (first | apply Kd.S_alloc | apply Kd.S_drewN | apply Kd.S_drew)); exact HO_3.out, by repeat (first | (with_reducible first | exact HB.out | apply below_alloc | apply pw_below_drewN | apply below_drew1) | exact HB.out)⟩
  ·rw [if_neg c3] at H
   exact absurd H (by simp)
 ·rw [if_neg c2] at H
  exact absurd H (by simp)
def laws_toWord.f (k : Nat) (a0_0 : Int) (a0_1 : Int) (l0_2 : List (S75)) : Option (Int × Int × (List (S81))) := laws_toWord.g (laws_toWordS.f k) a0_0 a0_1 l0_2
theorem toSW.calls (k : Nat) (a0_0 : Int) (a0_1 : Int) (A0_2 : Option Addr) (c0_2 : Nat) (l0_2 : List (S75)) (r1 : Int) (r2 : Int) (r3 : List (S81)) (w : World) (hr0_2 : Kd.C k75 w A0_2 l0_2.length l0_2) (hc0_2 : l0_2.length ≤ c0_2) (h : laws_toWord.f k a0_0 a0_1 l0_2 = some (r1, r2, r3)) :
  Calls Try.prog 48 #[.agg #[.int .i64 a0_0, .int .i64 a0_1, .slice A0_2 l0_2.length c0_2]] w fun e w' => ∃ v2_ : Value, e = .returned (.agg #[.int .i64 r1, .int .i64 r2, v2_]) ∧ Kd.S kS81 81 w' w.heap.size (fun _ => True) v2_ r3 ∧ Below w.heap.size w w' :=
 toSW.calls_g k (toSSW.calls k) a0_0 a0_1 A0_2 c0_2 l0_2 r1 r2 r3 w hr0_2 hc0_2 h
end Go.Proofs.Ytcmkkoggdcjceaa.PFnExactWordBits
end
