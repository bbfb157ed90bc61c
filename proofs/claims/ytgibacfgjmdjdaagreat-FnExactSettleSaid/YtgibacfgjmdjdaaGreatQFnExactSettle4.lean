/- FnExactSettle: for every input the law returns true. The texts that this program's session printed and proved for it, those that the proof uses, laid together. Conditions: the form's own reach alone. -/
import Derived.Test.YtgibacfgjmdjdaaGreatQFnExactSettle3
section
section
namespace Go.Proofs.YtgibacfgjmdjdaaGreat.PFnExactIsStable
open Go.RowKit Go.Proofs.YtgibacfgjmdjdaaGreatW.PrintWords Go.Proofs.YtgibacfgjmdjdaaGreatW.PrintLast Go.Proofs.YtgibacfgjmdjdaaGreatW.PrintMore
attribute [local go_sem] max2_int min2_int max_two min_two max_three min_three max_four min_four   -- for this text's walks alone
set_option linter.unusedVariables false
set_option linter.unusedSimpArgs false
theorem cf4 {W : World} {g i j k l : Nat} {a : Addr} {u v x y : Value} {z : Option Value} (h : a.block ≠ g) (e : W.cell? a = z) : ((((W.setCell ⟨g, i, none⟩ u).setCell ⟨g, j, none⟩ v).setCell ⟨g, k, none⟩ x).setCell ⟨g, l, none⟩ y).cell? a = z :=
 (cell_far h _).trans ((cell_far h _).trans ((cell_far h _).trans ((cell_far h _).trans e)))
mutual
def spec_l07Candidates.j0 : Nat → Int → List Int → List Bool → List (S80) → List (S80) → List ByteArray → List (S92) → List Int → List Int → List (S95) → List (S97) → Option ((List (S80)))
 | 0, _, _, _, _, _, _, _, _, _, _, _ => none
 | k + 1, x1, x2, x3, x4, x11, x252000, x252001, x252002, x252003, x252004, x252005 => (spec_l07Has.f k x252003 x1).bind fun t259 => (if t259 ≥ 0 then (if 0 ≤ t259 then (if t259 < (x2.length : Int) then (spec_l07Candidates.j1 k x1 x2 x3 x4 x11 t259 (decide ((rd x2 t259) > 0)) x252000 x252001 x252002 x252003 x252004 x252005) else (none)) else (none)) else (spec_l07Candidates.j1 k x1 x2 x3 x4 x11 t259 false x252000 x252001 x252002 x252003 x252004 x252005))
def spec_l07Candidates.j1 : Nat → Int → List Int → List Bool → List (S80) → List (S80) → Int → Bool → List ByteArray → List (S92) → List Int → List Int → List (S95) → List (S97) → Option ((List (S80)))
 | 0, _, _, _, _, _, _, _, _, _, _, _, _, _ => none
 | k + 1, x1, x2, x3, x4, x11, x12, x38, x252000, x252001, x252002, x252003, x252004, x252005 => if x38 = true then (if 0 ≤ x12 then (if x12 < (x2.length : Int) then (if x11.length < 4398046511104 then (spec_l07Candidates.j2 k x1 x3 x4 (x11 ++ [(⟨(-1), 100, 2, ((rd x2 x12) == 2)⟩ : S80)]) x252000 x252001 x252002 x252003 x252004 x252005) else (none)) else (none)) else (none)) else (spec_l07Candidates.j2 k x1 x3 x4 x11 x252000 x252001 x252002 x252003 x252004 x252005)
def spec_l07Candidates.j2 : Nat → Int → List Bool → List (S80) → List (S80) → List ByteArray → List (S92) → List Int → List Int → List (S95) → List (S97) → Option ((List (S80)))
 | 0, _, _, _, _, _, _, _, _, _, _ => none
 | k + 1, x1, x3, x4, x11, x252000, x252001, x252002, x252003, x252004, x252005 => (spec_l06Neighbours.f k x252000 x252001 x252002 x252003 x252004 x252005 x1 x3).bind fun t265 => (spec_l07Candidates.l0 k x1 x4 x11 t265 0 x252000 x252001 x252002 x252003 x252004 x252005)
def spec_l07Candidates.l0 : Nat → Int → List (S80) → List (S80) → List Int → Int → List ByteArray → List (S92) → List Int → List Int → List (S95) → List (S97) → Option ((List (S80)))
 | 0, _, _, _, _, _, _, _, _, _, _, _ => none
 | k + 1, x1, x4, x11, x13, x14, x252000, x252001, x252002, x252003, x252004, x252005 => if x14 < (x13.length : Int) then (if 0 ≤ x14 then (if 0 ≤ (rd x13 x14) then (if (rd x13 x14) < (x4.length : Int) then (if ((rd_T80 x4 (rd x13 x14)).f0) = (-3) then (spec_l07Candidates.j4 k x1 x4 x11 x13 x14 true x252000 x252001 x252002 x252003 x252004 x252005) else ((spec_l07Through.f k x4 (rd x13 x14) x1).bind fun t271 => (spec_l07Candidates.j4 k x1 x4 x11 x13 x14 t271 x252000 x252001 x252002 x252003 x252004 x252005))) else (none)) else (none)) else (none)) else (some x11)
def spec_l07Candidates.j4 : Nat → Int → List (S80) → List (S80) → List Int → Int → Bool → List ByteArray → List (S92) → List Int → List Int → List (S95) → List (S97) → Option ((List (S80)))
 | 0, _, _, _, _, _, _, _, _, _, _, _, _ => none
 | k + 1, x1, x4, x11, x13, x14, x75, x252000, x252001, x252002, x252003, x252004, x252005 => if x75 = true then (spec_l07Candidates.l0 k x1 x4 x11 x13 (wrap64 (x14 + 1)) x252000 x252001 x252002 x252003 x252004 x252005) else (if 0 ≤ x14 then (if x14 < (x13.length : Int) then (if 0 ≤ (rd x13 x14) then (if (rd x13 x14) < (x4.length : Int) then ((spec_l07Import.f k x252000 x252001 x252002 x252003 x252004 x252005 x1 (rd x13 x14) ((rd_T80 x4 (rd x13 x14)).f0) ((rd_T80 x4 (rd x13 x14)).f1) ((rd_T80 x4 (rd x13 x14)).f2) ((rd_T80 x4 (rd x13 x14)).f3)).bind fun bt275 => (if bt275.1 = (-3) then (spec_l07Candidates.l0 k x1 x4 x11 x13 (wrap64 (x14 + 1)) x252000 x252001 x252002 x252003 x252004 x252005) else (if x11.length < 4398046511104 then (spec_l07Candidates.l0 k x1 x4 (x11 ++ [(⟨bt275.1, bt275.2.1, bt275.2.2.1, bt275.2.2.2⟩ : S80)]) x13 (wrap64 (x14 + 1)) x252000 x252001 x252002 x252003 x252004 x252005) else (none)))) else (none)) else (none)) else (none)) else (none))
end
def spec_l07Candidates.f (k : Nat) (l0_0 : List ByteArray) (l0_1 : List (S92)) (l0_2 : List Int) (l0_3 : List Int) (l0_4 : List (S95)) (l0_5 : List (S97)) (a1 : Int) (l2 : List Int) (l3 : List Bool) (l4 : List (S80)) : Option ((List (S80))) := (some (([] : List (S80)) : List (S80))).bind fun y252 => ((spec_l07Has.f k l0_2 a1).bind fun t255 => (if t255 ≥ 0 then (if y252.length < 4398046511104 then (spec_l07Candidates.j0 k a1 l2 l3 l4 (y252 ++ [(⟨(-2), 200, 0, false⟩ : S80)]) l0_0 l0_1 l0_2 l0_3 l0_4 l0_5) else (none)) else (spec_l07Candidates.j0 k a1 l2 l3 l4 y252 l0_0 l0_1 l0_2 l0_3 l0_4 l0_5)))
def spec_l07Candidates.T12 : Bool × List (List Nat × List Nat) := (true, [([], []), ([], []), ([], []), ([], []), ([2, 3], [2, 3]), ([4], [4]), ([], []), ([], []), ([], []), ([7, 8], [7, 8]), ([9], [9]), ([6, 10], [6, 10]), ([11], [11]), ([0, 1, 5, 12], [0, 1, 5, 12]), ([], []), ([14, 13, 13, 0, 1, 2, 3, 4, 5, 6, 7, 8, 9, 10, 11, 12, 13, 14], [13, 14])])
def spec_l07Candidates.B12 : List Nat := [0, 0, 0, 0, 12, 28, 0, 0, 0, 384, 896, 1984, 4032, 8191, 0, 32767]
theorem spec_l07Candidates.tab12 : rtab .any (opsOf Tryz.f28 12) = spec_l07Candidates.T12 := by kernel_rfl
theorem spec_l07Candidates.bits12 : waitsOk spec_l07Candidates.T12.2 spec_l07Candidates.B12 = true := by kernel_rfl
set_option maxHeartbeats 8000000 in
set_option maxRecDepth 100000 in
theorem spec_l07Candidates.calls (k A0_0 c0_0 l0_0 A0_1 c0_1 l0_1 A0_2 c0_2 l0_2 A0_3 c0_3 l0_3 A0_4 c0_4 l0_4 A0_5 c0_5 l0_5 a1 A2 c2 l2 A3 c3 l3 A4 c4 l4 r w) (hr0_0 : Kd.C Kd.string w A0_0 l0_0.length l0_0) (hc0_0 : l0_0.length ≤ c0_0) (hr0_1 : Kd.C k92 w A0_1 l0_1.length l0_1) (hc0_1 : l0_1.length ≤ c0_1) (hr0_2 : Kd.C (Kd.int .i64) w A0_2 l0_2.length l0_2) (hc0_2 : l0_2.length ≤ c0_2) (hr0_3 : Kd.C (Kd.int .i64) w A0_3 l0_3.length l0_3) (hc0_3 : l0_3.length ≤ c0_3) (hr0_4 : Kd.C k95 w A0_4 l0_4.length l0_4) (hc0_4 : l0_4.length ≤ c0_4) (hr0_5 : Kd.C k97 w A0_5 l0_5.length l0_5) (hc0_5 : l0_5.length ≤ c0_5) (hr2 : Kd.C (Kd.int .i64) w A2 l2.length l2) (hc2 : l2.length ≤ c2) (hr3 : Kd.C Kd.bool w A3 l3.length l3) (hc3 : l3.length ≤ c3) (hr4 : Kd.C k80 w A4 l4.length l4) (hc4 : l4.length ≤ c4) (h : spec_l07Candidates.f k l0_0 l0_1 l0_2 l0_3 l0_4 l0_5 a1 l2 l3 l4 = some r) :
  Calls Tryz.prog 28 #[.agg #[.slice A0_0 l0_0.length c0_0, .slice A0_1 l0_1.length c0_1, .slice A0_2 l0_2.length c0_2, .slice A0_3 l0_3.length c0_3, .slice A0_4 l0_4.length c0_4, .slice A0_5 l0_5.length c0_5], .int .i64 a1, .slice A2 l2.length c2, .slice A3 l3.length c3, .slice A4 l4.length c4] w fun e w' => ∃ v0_ : Value, e = .returned (v0_) ∧ Kd.R k80 58 w' w.heap.size (fun _ => True) v0_ r ∧ Below w.heap.size w w' := by
 have hu38 := Tryz.underlying38
 have hu80 := Tryz.underlying58
 obtain ⟨HR0_0, HC0_0, HR0_1, HC0_1, HR0_2, HC0_2, HR0_3, HC0_3, HR0_4, HC0_4, HR0_5, HC0_5⟩ := as12 hr0_0 hc0_0 hr0_1 hc0_1 hr0_2 hc0_2 hr0_3 hc0_3 hr0_4 hc0_4 hr0_5 hc0_5
 clear hr0_0 hc0_0 hr0_1 hc0_1 hr0_2 hc0_2 hr0_3 hc0_3 hr0_4 hc0_4 hr0_5 hc0_5
 have HR2 := aM hr2
 have HC2 := aM hc2
 clear hr2 hc2
 have HR3 := aM hr3
 have HC3 := aM hc3
 clear hr3 hc3
 have HR4 := aM hr4
 have HC4 := aM hc4
 clear hr4 hc4
 have HB := aM (Below.refl w.heap.size w)
 have H : ((some (([] : List (S80)) : List (S80))).bind fun y252 => ((spec_l07Has.f k l0_2 a1).bind fun t255 => (if t255 ≥ 0 then (if y252.length < 4398046511104 then (spec_l07Candidates.j0 k a1 l2 l3 l4 (y252 ++ [(⟨(-2), 200, 0, false⟩ : S80)]) l0_0 l0_1 l0_2 l0_3 l0_4 l0_5) else (none)) else (spec_l07Candidates.j0 k a1 l2 l3 l4 y252 l0_0 l0_1 l0_2 l0_3 l0_4 l0_5)))) = some r := h
 clear h
 obtain ⟨y252, hy252⟩ : ∃ y_ : List (S80), y_ = (([] : List (S80))) := ⟨_, rfl⟩
 replace H : ((spec_l07Has.f k l0_2 a1).bind fun t255 => (if t255 ≥ 0 then (if y252.length < 4398046511104 then (spec_l07Candidates.j0 k a1 l2 l3 l4 (y252 ++ [(⟨(-2), 200, 0, false⟩ : S80)]) l0_0 l0_1 l0_2 l0_3 l0_4 l0_5) else (none)) else (spec_l07Candidates.j0 k a1 l2 l3 l4 y252 l0_0 l0_1 l0_2 l0_3 l0_4 l0_5))) = some r := by (have H2_ := (Option.bind_some _ _).symm.trans H; rw [hy252]; with_reducible exact H2_)
 have Ny252 := aM hy252
 clear hy252
 obtain ⟨t255, A6, H⟩ := bA_ H
 have HC7 := aM H
 clear H
 go_enter Tryz.func28, Tryz.ntmps28
 go_upto_if 21 with (first | ((with_reducible refine gate_dst (N := 5) rfl ?_); refine bxE HB ?_; intro gb251 hg w8 hb BK251 GW251 GE251 HB; clear hb hg) | ((with_reducible refine gate_dst (N := 16) rfl ?_); refine Kd.R_lit k80 _ 58 ?hg (N := 16) ?hd (xs := ([] : List (S80))) (inner := []) (ok := fun _ => True) (okp := fun _ => True) ?hr ?hp (fun _ hk => hk) trivial (Below.refl _ _) (Nat.le_refl _) (by simp) ?_; (case hd => rfl); (case hg => rfl); (case hr => (go_simp; done)); (case hp => exact (Reps.none _ _)); intro v253 w9 ho10 hb hg_ hnew_; clear hg_ hnew_; (rw [← Ny252.out] at ho10); have HO254 := aM (Kd.R_lower ho10 (below_size HB.out)); replace BK251 := aK BK251 hb; replace HB := aB HB hb; clear hb ho10; obtain ⟨hcz11_0, hcz11_1, hcz11_2, hcz11_3, hcz11_4, hcz11_5⟩ := swc6 BK251.out; obtain ⟨hfz11_0, hfz11_1, hfz11_2, hfz11_3, hfz11_4, hfz11_5⟩ := swf6 BK251.out) | (go_at_call 51; (with_reducible refine (spec_l07Has.calls k _ _ l0_2 a1 t255 _ (Kd.C_below HR0_2.out HB.out) HC0_2.out A6.out).mono ?_); rintro e w' ⟨rfl, ⟨nd, rfl⟩⟩))
 (try simp only [Act.put, List.setIfInBounds_toArray, List.set_cons_zero, List.set_cons_succ])
 go_cut [11] (fun v11 wc => ∃ (kq : Nat) (x11_6 : List (S80)), Aside0 (spec_l07Candidates.j0 kq a1 l2 l3 l4 x11_6 l0_0 l0_1 l0_2 l0_3 l0_4 l0_5 = some r) ∧ Aside0 (kq ≤ k) ∧ Aside0 (Kd.R k80 58 wc w.heap.size (fun _ => True) v11 x11_6) ∧ Aside0 (wc.heap[gb251]? = some (.cells #[(.slice A0_0 l0_0.length c0_0), (.slice A0_1 l0_1.length c0_1), (.slice A0_2 l0_2.length c0_2), (.slice A0_3 l0_3.length c0_3), (.slice A0_4 l0_4.length c0_4), (.slice A0_5 l0_5.length c0_5)] 38 (0, 0))) ∧ Aside0 (Below w.heap.size w wc))
 case first =>
  obtain ⟨H⟩ := HC7
  by_cases c12 : t255 ≥ 0
  rotate_left
  ·rw [if_neg c12] at H
   have c12b0 : decide (0 ≤ t255) = false := decide_eq_false c12
   clear c12
   (rw [c12b0])
   have H' := aM H
   clear H
   go_wp2
   go_meet
   case rel => exact ⟨_, (y252), H', ⟨by omega⟩, ⟨by (with_reducible repeat (apply Kd.R_drewN)); exact HO254.out⟩, ⟨by (with_reducible repeat (refine blk_drewN ?_ _)); exact BK251.out⟩, ⟨by repeat ((with_reducible first | exact HB.out | apply pw_below_drewN))⟩⟩
  rw [if_pos c12] at H
  have c12b0 : decide (0 ≤ t255) = true := decide_eq_true c12
  clear c12
  (rw [c12b0])
  obtain ⟨c13, H⟩ := iP H
  have LMc13 := aM c13
  clear c13
  obtain ⟨y256, hy256⟩ : ∃ y_ : List (S80), y_ = (y252 ++ [(⟨(-2), 200, 0, false⟩ : S80)]) := ⟨_, rfl⟩
  replace H : (spec_l07Candidates.j0 k a1 l2 l3 l4 y256 l0_0 l0_1 l0_2 l0_3 l0_4 l0_5) = some r := by (rw [hy256]; with_reducible exact H)
  have Ny256 := aM hy256
  clear hy256
  have H' := aM H
  clear H
  go_wp2_with (((with_reducible refine gate_builtin (b := .append) (xs := #[.tmp 22, .tmp 24]) rfl ?_); at_builtin; refine Kd.R_append k80 (w0 := w) w.heap.size rfl (.tmp 22) (.tmp 24) 31 58 (.agg #[(.int .i64 0), (.int .i64 0), (.int .i64 0), (.bool false)]) 32 rfl Tryz.underlying31 info80 rfl (by decide) (by omega) v253 y252 (⟨(-2), 200, 0, false⟩ : S80) [.int .i64 (-2), .int .i64 200, .int .i64 0, .bool false] (fun _ => True) (fun _ => False) rfl rfl ?aP (fun _ hk => hk.elim) ?aF ?aO ?aB ?aS ?aL ?_; (case aP => exact k80_mkM _ _ _ (⟨(-2), 200, 0, false⟩ : S80)); (case aB => exact (by repeat ((with_reducible first | exact HB.out | apply pw_below_drewN)))); (case aF => exact (fun _ _ => trivial)); (case aO => exact (by (with_reducible repeat (apply Kd.R_drewN)); exact HO254.out)); (case aS => exact (below_size (by repeat ((with_reducible first | exact HB.out | apply pw_below_drewN))))); (case aL => have := LMc13.out; omega); intro v257 w14 ho hb hg hat; rw [← Ny256.out] at ho; replace BK251 := aM (blk_grown (g := gb251) (o := .cells #[.slice A0_0 l0_0.length c0_0, .slice A0_1 l0_1.length c0_1, .slice A0_2 l0_2.length c0_2, .slice A0_3 l0_3.length c0_3, .slice A0_4 l0_4.length c0_4, .slice A0_5 l0_5.length c0_5] 38 (0, 0)) (by (with_reducible repeat (refine blk_drewN ?_ _)); exact BK251.out) hg (Kd.R_ne HO254.out BK251.out (by decide))); replace HB := aM (hb); have HO258 := aM (ho); clear HO254; clear ho hb hg hat))
  go_meet
  case rel => exact ⟨_, (y256), H', ⟨by omega⟩, ⟨by exact HO258.out⟩, ⟨by exact BK251.out⟩, ⟨by repeat ((with_reducible exact HB.out))⟩⟩
 clear HC7 hcz11_0 hcz11_1 hcz11_2 hcz11_3 hcz11_4 hcz11_5 hfz11_0 hfz11_1 hfz11_2 hfz11_3 hfz11_4 hfz11_5
 obtain ⟨kq, x11_6, HA, HJ6, HO_11, BK251, HB⟩ := hcut
 cases kq with
 | zero => exact absurd HA.out (by simp [spec_l07Candidates.j0])
 | succ kj6 =>
  obtain ⟨H⟩ := HA
  simp only [spec_l07Candidates.j0] at H
  obtain ⟨t259, A15, H⟩ := bA_ H
  have HC16 := aM H
  clear H
  obtain ⟨hcz17_0, hcz17_1, hcz17_2, hcz17_3, hcz17_4, hcz17_5⟩ := swc6 BK251.out
  obtain ⟨hfz17_0, hfz17_1, hfz17_2, hfz17_3, hfz17_4, hfz17_5⟩ := swf6 BK251.out
  go_upto_region 5 with ((go_at_call 51; (with_reducible refine (spec_l07Has.calls kj6 _ _ l0_3 a1 t259 _ (Kd.C_below HR0_3.out HB.out) HC0_3.out A15.out).mono ?_); rintro e w' ⟨rfl, ⟨nd, rfl⟩⟩))
  (try simp only [Act.put, List.setIfInBounds_toArray, List.set_cons_zero, List.set_cons_succ])
  go_cut [38] (fun v38 wc => ∃ (kq : Nat) (x38_15 : Bool), v38 = .bool x38_15 ∧ Aside0 (spec_l07Candidates.j1 kq a1 l2 l3 l4 x11_6 t259 x38_15 l0_0 l0_1 l0_2 l0_3 l0_4 l0_5 = some r) ∧ Aside0 (kq ≤ kj6) ∧ Aside0 (Kd.R k80 58 wc w.heap.size (fun _ => True) u11 x11_6) ∧ Aside0 (wc.heap[gb251]? = some (.cells #[(.slice A0_0 l0_0.length c0_0), (.slice A0_1 l0_1.length c0_1), (.slice A0_2 l0_2.length c0_2), (.slice A0_3 l0_3.length c0_3), (.slice A0_4 l0_4.length c0_4), (.slice A0_5 l0_5.length c0_5)] 38 (0, 0))) ∧ Aside0 (Below w.heap.size w wc))
  case first =>
   obtain ⟨H⟩ := HC16
   by_cases c18 : t259 ≥ 0
   rotate_left
   ·rw [if_neg c18] at H
    have c18b0 : decide (0 ≤ t259) = false := decide_eq_false c18
    clear c18
    (skip)
    have H' := aM H
    clear H
    go_wp2
    go_meet
    case rel => exact ⟨_, (false), (by rfl), H', ⟨by have := HJ6.out; omega⟩, ⟨by (with_reducible repeat (apply Kd.R_drewN)); exact HO_11.out⟩, ⟨by (with_reducible repeat (refine blk_drewN ?_ _)); exact BK251.out⟩, ⟨by repeat ((with_reducible first | exact HB.out | apply pw_below_drewN))⟩⟩
   rw [if_pos c18] at H
   have c18b0 : decide (0 ≤ t259) = true := decide_eq_true c18
   clear c18
   (skip)
   obtain ⟨c19b0, H⟩ := iD H
   obtain ⟨c20b0, H⟩ := iD H
   have H' := aM H
   clear H
   have p260 : 0 ≤ (t259 : Int) := oD ‹_›
   have q260 : t259 < (l2.length : Int) := oD ‹_›
   obtain ⟨ad260, e260, hx260_0⟩ := Kd.at_int HR2.out t259 p260 q260
   cases e260
   replace hx260_0 := swB HB.out hx260_0
   replace p260 := eq_true p260
   replace q260 := eq_true q260
   go_wp2
   go_meet
   case rel => exact ⟨_, (decide ((rd l2 t259) > 0)), (by rfl), H', ⟨by have := HJ6.out; omega⟩, ⟨by (with_reducible repeat (apply Kd.R_drewN)); exact HO_11.out⟩, ⟨by (with_reducible repeat (refine blk_drewN ?_ _)); exact BK251.out⟩, ⟨by repeat ((with_reducible first | exact HB.out | apply pw_below_drewN))⟩⟩
  clear HC16 hcz17_0 hcz17_1 hcz17_2 hcz17_3 hcz17_4 hcz17_5 hfz17_0 hfz17_1 hfz17_2 hfz17_3 hfz17_4 hfz17_5
  obtain ⟨kq, x38_15, rfl, HA, HJ15, HO_11, BK251, HB⟩ := hcut
  cases kq with
  | zero => exact absurd HA.out (by simp [spec_l07Candidates.j1])
  | succ kj15 =>
   obtain ⟨H⟩ := HA
   simp only [spec_l07Candidates.j1] at H
   have HC21 := aM H
   clear H
   go_upto_if 38 with (fail)
   go_cut [11] (fun v11 wc => ∃ (kq : Nat) (x11_20 : List (S80)), Aside0 (spec_l07Candidates.j2 kq a1 l3 l4 x11_20 l0_0 l0_1 l0_2 l0_3 l0_4 l0_5 = some r) ∧ Aside0 (kq ≤ kj15) ∧ Aside0 (Kd.R k80 58 wc w.heap.size (fun _ => True) v11 x11_20) ∧ Aside0 (wc.heap[gb251]? = some (.cells #[(.slice A0_0 l0_0.length c0_0), (.slice A0_1 l0_1.length c0_1), (.slice A0_2 l0_2.length c0_2), (.slice A0_3 l0_3.length c0_3), (.slice A0_4 l0_4.length c0_4), (.slice A0_5 l0_5.length c0_5)] 38 (0, 0))) ∧ Aside0 (Below w.heap.size w wc))
   case first =>
    obtain ⟨H⟩ := HC21
    by_cases c22 : x38_15 = true
    rotate_left
    ·replace c22 := Bool.eq_false_iff.mpr c22
     subst c22
     rw [if_neg (show ¬ (false = true) by decide)] at H
     have H' := aM H
     clear H
     go_wp2
     go_meet
     case rel => exact ⟨_, (x11_6), H', ⟨by have := HJ6.out; have := HJ15.out; omega⟩, ⟨by exact HO_11.out⟩, ⟨by exact BK251.out⟩, ⟨by repeat ((with_reducible exact HB.out))⟩⟩
    subst c22
    rw [if_pos rfl] at H
    obtain ⟨c23b0, H⟩ := iD H
    (skip)
    obtain ⟨c24b0, H⟩ := iD H
    obtain ⟨c25, H⟩ := iP H
    have LMc25 := aM c25
    clear c25
    obtain ⟨y262, hy262⟩ : ∃ y_ : List (S80), y_ = (x11_6 ++ [(⟨(-1), 100, 2, ((rd l2 t259) == 2)⟩ : S80)]) := ⟨_, rfl⟩
    replace H : (spec_l07Candidates.j2 kj15 a1 l3 l4 y262 l0_0 l0_1 l0_2 l0_3 l0_4 l0_5) = some r := by (rw [hy262]; with_reducible exact H)
    have Ny262 := aM hy262
    clear hy262
    have H' := aM H
    clear H
    have p261 : 0 ≤ (t259 : Int) := oD ‹_›
    have q261 : t259 < (l2.length : Int) := oD ‹_›
    obtain ⟨ad261, e261, hx261_0⟩ := Kd.at_int HR2.out t259 p261 q261
    cases e261
    replace hx261_0 := swB HB.out hx261_0
    replace p261 := eq_true p261
    replace q261 := eq_true q261
    go_wp2_with (((with_reducible refine gate_builtin (b := .append) (xs := #[.tmp 39, .tmp 46]) rfl ?_); at_builtin; refine Kd.R_append k80 (w0 := w) w.heap.size rfl (.tmp 39) (.tmp 46) 31 58 (.agg #[(.int .i64 0), (.int .i64 0), (.int .i64 0), (.bool false)]) 32 rfl Tryz.underlying31 info80 rfl (by decide) (by omega) u11 x11_6 (⟨(-1), 100, 2, ((rd l2 t259) == 2)⟩ : S80) [.int .i64 (-1), .int .i64 100, .int .i64 2, .bool ((rd l2 t259) == 2)] (fun _ => True) (fun _ => False) rfl rfl ?aP (fun _ hk => hk.elim) ?aF ?aO ?aB ?aS ?aL ?_; (case aP => exact k80_mkM _ _ _ (⟨(-1), 100, 2, ((rd l2 t259) == 2)⟩ : S80)); (case aB => exact HB.out); (case aF => exact (fun _ _ => trivial)); (case aO => exact HO_11.out); (case aS => exact (below_size HB.out)); (case aL => have := LMc25.out; omega); intro v263 w26 ho hb hg hat; rw [← Ny262.out] at ho; replace BK251 := aM (blk_grown BK251.out hg (Kd.R_ne HO_11.out BK251.out (by decide))); replace HB := aM (hb); have HO264 := aM (ho); clear HO_11; clear ho hb hg hat))
    go_meet
    case rel => exact ⟨_, (y262), H', ⟨by have := HJ6.out; have := HJ15.out; omega⟩, ⟨by exact HO264.out⟩, ⟨by exact BK251.out⟩, ⟨by repeat ((with_reducible exact HB.out))⟩⟩
   clear HC21
   obtain ⟨kq, x11_20, HA, HJ20, HO_11, BK251, HB⟩ := hcut
   cases kq with
   | zero => exact absurd HA.out (by simp [spec_l07Candidates.j2])
   | succ kj20 =>
    obtain ⟨H⟩ := HA
    simp only [spec_l07Candidates.j2] at H
    obtain ⟨t265, A27, H⟩ := bA_ H
    have H' := aM H
    clear H
    obtain ⟨hcz28_0, hcz28_1, hcz28_2, hcz28_3, hcz28_4, hcz28_5⟩ := swc6 BK251.out
    obtain ⟨hfz28_0, hfz28_1, hfz28_2, hfz28_3, hfz28_4, hfz28_5⟩ := swf6 BK251.out
    go_wp2_with ((go_at_call 52; (with_reducible refine (spec_l06Neighbours.calls kj20 _ _ l0_0 _ _ l0_1 _ _ l0_2 _ _ l0_3 _ _ l0_4 _ _ l0_5 a1 _ _ l3 t265 _ (Kd.C_below HR0_0.out HB.out) HC0_0.out (Kd.C_below HR0_1.out HB.out) HC0_1.out (Kd.C_below HR0_2.out HB.out) HC0_2.out (Kd.C_below HR0_3.out HB.out) HC0_3.out (Kd.C_below HR0_4.out HB.out) HC0_4.out (Kd.C_below HR0_5.out HB.out) HC0_5.out (Kd.C_below HR3.out HB.out) HC3.out A27.out).mono ?_); rintro e w29 ⟨v266, rfl, ho0, hb⟩; replace HO_11 := aM (Kd.R_below HO_11.out hb); have HO267 := aM (Kd.R_lower ho0 (below_size HB.out)); replace BK251 := aK BK251 hb; replace HB := aB HB hb; (try clear hb); (try clear ho0)))
    go_loopg [11, 14] kj20 (fun kq v11 v14 w' => ∃ (x11_4 : List (S80)) (x14_4 : Int), v14 = .int .i64 x14_4 ∧ Aside0 (spec_l07Candidates.l0 kq a1 l4 x11_4 t265 x14_4 l0_0 l0_1 l0_2 l0_3 l0_4 l0_5 = some r) ∧ Aside0 (kq ≤ kj20) ∧ Aside0 (Kd.R k80 58 w' w.heap.size (fun _ => True) v11 x11_4) ∧ Aside0 (Kd.R (Kd.int .i64) 3 w' w.heap.size (fun _ => True) v266 t265) ∧ Aside0 (w'.heap[gb251]? = some (.cells #[(.slice A0_0 l0_0.length c0_0), (.slice A0_1 l0_1.length c0_1), (.slice A0_2 l0_2.length c0_2), (.slice A0_3 l0_3.length c0_3), (.slice A0_4 l0_4.length c0_4), (.slice A0_5 l0_5.length c0_5)] 38 (0, 0))) ∧ Aside0 (Below w.heap.size w w'))
    case atStart => exact ⟨(x11_20), (0), (by rfl), H', ⟨Nat.le_refl _⟩, ⟨by exact HO_11.out⟩, ⟨by exact HO267.out⟩, ⟨by exact BK251.out⟩, ⟨by repeat ((with_reducible exact HB.out))⟩⟩
    clear H'
    clear hcz28_0 hcz28_1 hcz28_2 hcz28_3 hcz28_4 hcz28_5 hfz28_0 hfz28_1 hfz28_2 hfz28_3 hfz28_4 hfz28_5
    obtain ⟨x11_4, x14_4, rfl, HA, HK4, HO_11, HO_13, BK251, HB⟩ := hrel
    cases gk with
    | zero => exact absurd HA.out (by simp [spec_l07Candidates.l0])
    | succ k4 =>
     obtain ⟨H⟩ := HA
     simp only [spec_l07Candidates.l0] at H
     by_cases c30 : x14_4 < (t265.length : Int)
     rotate_left
     ·rw [if_neg c30] at H
      have c30b0 := decide_eq_false c30
      clear c30
      obtain rfl := Option.some.inj H
      obtain ⟨Ao67, co67, eo67⟩ := Kd.R_slice HO_13.out
      subst eo67
      go_wp2
      go_ret
      exact ⟨_, by rfl, by exact HO_11.out, by repeat ((with_reducible exact HB.out))⟩
     rw [if_pos c30] at H
     have c30b0 := decide_eq_true c30
     clear c30
     have HC31 := aM H
     clear H
     obtain ⟨Ao32, co32, eo32⟩ := Kd.R_slice HO_13.out
     subst eo32
     go_upto_region 11 with (fail)
     go_cut [75] (fun v75 wc => ∃ (kq : Nat) (x75_30 : Bool), v75 = .bool x75_30 ∧ Aside0 (spec_l07Candidates.j4 kq a1 l4 x11_4 t265 x14_4 x75_30 l0_0 l0_1 l0_2 l0_3 l0_4 l0_5 = some r) ∧ Aside0 (kq ≤ k4) ∧ Aside0 (Kd.R k80 58 wc w.heap.size (fun _ => True) u11 x11_4) ∧ Aside0 (Kd.R (Kd.int .i64) 3 wc w.heap.size (fun _ => True) (.slice Ao32 t265.length co32) t265) ∧ Aside0 (wc.heap[gb251]? = some (.cells #[(.slice A0_0 l0_0.length c0_0), (.slice A0_1 l0_1.length c0_1), (.slice A0_2 l0_2.length c0_2), (.slice A0_3 l0_3.length c0_3), (.slice A0_4 l0_4.length c0_4), (.slice A0_5 l0_5.length c0_5)] 38 (0, 0))) ∧ Aside0 (Below w.heap.size w wc))
     case first =>
      obtain ⟨H⟩ := HC31
      obtain ⟨c33b0, H⟩ := iD H
      (skip)
      obtain ⟨c34b0, H⟩ := iD H
      obtain ⟨c35b0, H⟩ := iD H
      by_cases c36 : ((rd_T80 l4 (rd t265 x14_4)).f0) = (-3)
      ·rw [if_pos c36] at H
       have c36b0 := beq_iff_eq.mpr c36
       have c36b1 : (((rd_T80 l4 (rd t265 x14_4)).f0) != (-3)) = false := bne_eq_false_iff_eq.mpr c36
       clear c36
       have H' := aM H
       clear H
       have p268 : 0 ≤ (x14_4 : Int) := oD ‹_›
       have q268 : x14_4 < (t265.length : Int) := oD ‹_›
       obtain ⟨ad268, e268, hx268_0⟩ := Kd.at_int (Kd.R_reads' HO_13.out).2.2 x14_4 p268 q268
       cases e268
       replace p268 := eq_true p268
       replace q268 := eq_true q268
       have p269 : 0 ≤ ((rd t265 x14_4) : Int) := oD ‹_›
       have q269 : (rd t265 x14_4) < (l4.length : Int) := oD ‹_›
       obtain ⟨ad269, e269, hx269_0, hx269_1, hx269_2, hx269_3⟩ := at_T80 HR4.out (rd t265 x14_4) p269 q269
       cases e269
       replace hx269_0 := swB HB.out hx269_0
       replace hx269_1 := swB HB.out hx269_1
       replace hx269_2 := swB HB.out hx269_2
       replace hx269_3 := swB HB.out hx269_3
       replace p269 := eq_true p269
       replace q269 := eq_true q269
       go_wp2
       go_meet
       case rel => exact ⟨_, (true), (by rfl), H', ⟨by have := HJ6.out; have := HJ15.out; have := HJ20.out; have := HK4.out; omega⟩, ⟨by exact HO_11.out⟩, ⟨by exact HO_13.out⟩, ⟨by exact BK251.out⟩, ⟨by repeat ((with_reducible exact HB.out))⟩⟩
      rw [if_neg c36] at H
      have c36b0 := beq_eq_false_iff_ne.mpr c36
      have c36b1 : (((rd_T80 l4 (rd t265 x14_4)).f0) != (-3)) = true := bne_iff_ne.mpr c36
      obtain ⟨t271, A37, H⟩ := bA_ H
      have H' := aM H
      clear H
      have p268 : 0 ≤ (x14_4 : Int) := oD ‹_›
      have q268 : x14_4 < (t265.length : Int) := oD ‹_›
      obtain ⟨ad268, e268, hx268_0⟩ := Kd.at_int (Kd.R_reads' HO_13.out).2.2 x14_4 p268 q268
      cases e268
      replace p268 := eq_true p268
      replace q268 := eq_true q268
      have p269 : 0 ≤ ((rd t265 x14_4) : Int) := oD ‹_›
      have q269 : (rd t265 x14_4) < (l4.length : Int) := oD ‹_›
      obtain ⟨ad269, e269, hx269_0, hx269_1, hx269_2, hx269_3⟩ := at_T80 HR4.out (rd t265 x14_4) p269 q269
      cases e269
      replace hx269_0 := swB HB.out hx269_0
      replace hx269_1 := swB HB.out hx269_1
      replace hx269_2 := swB HB.out hx269_2
      replace hx269_3 := swB HB.out hx269_3
      replace p269 := eq_true p269
      replace q269 := eq_true q269
      have p270 : 0 ≤ (x14_4 : Int) := oD ‹_›
      have q270 : x14_4 < (t265.length : Int) := oD ‹_›
      obtain ⟨ad270, e270, hx270_0⟩ := Kd.at_int (Kd.R_reads' HO_13.out).2.2 x14_4 p270 q270
      obtain rfl : ad268 = ad270 := (by injection e270)
      replace p270 := eq_true p270
      replace q270 := eq_true q270
      go_wp2_with ((go_at_call 53; (with_reducible refine (spec_l07Through.calls k4 _ _ l4 (rd t265 x14_4) a1 t271 _ (Kd.C_below HR4.out HB.out) HC4.out A37.out).mono ?_); rintro e w' ⟨rfl, ⟨nd, rfl⟩⟩))
      go_meet
      case rel => exact ⟨_, (t271), (by rfl), H', ⟨by have := HJ6.out; have := HJ15.out; have := HJ20.out; have := HK4.out; omega⟩, ⟨by (with_reducible repeat (apply Kd.R_drewN)); exact HO_11.out⟩, ⟨by (with_reducible repeat (apply Kd.R_drewN)); exact HO_13.out⟩, ⟨by (with_reducible repeat (refine blk_drewN ?_ _)); exact BK251.out⟩, ⟨by repeat ((with_reducible first | exact HB.out | apply pw_below_drewN))⟩⟩
     clear HC31 c30b0
     obtain ⟨kq, x75_30, rfl, HA, HJ30, HO_11, HO_13, BK251, HB⟩ := hcut
     cases kq with
     | zero => exact absurd HA.out (by simp [spec_l07Candidates.j4])
     | succ kj30 =>
      obtain ⟨H⟩ := HA
      simp only [spec_l07Candidates.j4] at H
      by_cases c38 : x75_30 = true
      ·subst c38
       rw [if_pos rfl] at H
       have H' := aM H
       clear H
       go_wp2
       go_roundg kj30
       case measure => have := HJ6.out; have := HJ15.out; have := HJ20.out; have := HK4.out; have := HJ30.out; omega
       case rel => exact ⟨(x11_4), (wrap64 (x14_4 + 1)), (by rfl), H', ⟨by have := HJ6.out; have := HJ15.out; have := HJ20.out; have := HK4.out; have := HJ30.out; omega⟩, ⟨by exact HO_11.out⟩, ⟨by exact HO_13.out⟩, ⟨by exact BK251.out⟩, ⟨by repeat ((with_reducible exact HB.out))⟩⟩
      replace c38 := Bool.eq_false_iff.mpr c38
      subst c38
      rw [if_neg (show ¬ (false = true) by decide)] at H
      obtain ⟨c39b0, H⟩ := iD H
      obtain ⟨c40b0, H⟩ := iD H
      obtain ⟨c41b0, H⟩ := iD H
      obtain ⟨c42b0, H⟩ := iD H
      obtain ⟨⟨t275, t276, t277, t278⟩, A43, H⟩ := bA_ H
      have HCz := aM H
      clear H
      try go_wp2
      replace HO_11 := aM (Kd.R_drew HO_11.out)
      replace HO_13 := aM (Kd.R_drew HO_13.out)
      replace BK251 := aM (blk_drew BK251.out)
      replace HB := aM (below_drew1 HB.out)
      have p272 : 0 ≤ (x14_4 : Int) := oD ‹_›
      have q272 : x14_4 < (t265.length : Int) := oD ‹_›
      obtain ⟨ad272, e272, hx272_0⟩ := Kd.at_int (Kd.R_reads' HO_13.out).2.2 x14_4 p272 q272
      cases e272
      replace p272 := eq_true p272
      replace q272 := eq_true q272
      have p273 : 0 ≤ (x14_4 : Int) := oD ‹_›
      have q273 : x14_4 < (t265.length : Int) := oD ‹_›
      obtain ⟨ad273, e273, hx273_0⟩ := Kd.at_int (Kd.R_reads' HO_13.out).2.2 x14_4 p273 q273
      obtain rfl : ad272 = ad273 := (by injection e273)
      replace p273 := eq_true p273
      replace q273 := eq_true q273
      have p274 : 0 ≤ ((rd t265 x14_4) : Int) := oD ‹_›
      have q274 : (rd t265 x14_4) < (l4.length : Int) := oD ‹_›
      obtain ⟨ad274, e274, hx274_0, hx274_1, hx274_2, hx274_3⟩ := at_T80 HR4.out (rd t265 x14_4) p274 q274
      have hw274_3 := hx274_3
      have hw274_2 := hx274_2
      have hw274_1 := hx274_1
      have hw274_0 := hx274_0
      cases e274
      replace hx274_0 := swB HB.out hx274_0
      replace hx274_1 := swB HB.out hx274_1
      replace hx274_2 := swB HB.out hx274_2
      replace hx274_3 := swB HB.out hx274_3
      replace p274 := eq_true p274
      replace q274 := eq_true q274
      refine start_ (n := 16) (S := fun w' => w'.cell? ⟨gb251, 0, none⟩ = some (.slice A0_0 l0_0.length c0_0) ∧ w'.cell? ⟨gb251, 1, none⟩ = some (.slice A0_1 l0_1.length c0_1) ∧ w'.cell? ⟨gb251, 2, none⟩ = some (.slice A0_2 l0_2.length c0_2) ∧ w'.cell? ⟨gb251, 3, none⟩ = some (.slice A0_3 l0_3.length c0_3) ∧ w'.cell? ⟨gb251, 4, none⟩ = some (.slice A0_4 l0_4.length c0_4) ∧ w'.cell? ⟨gb251, 5, none⟩ = some (.slice A0_5 l0_5.length c0_5) ∧ w'.cell? (ad272.add (x14_4).toNat) = some (.int .i64 (rd t265 x14_4)) ∧ w'.cell? (ad272.add (x14_4).toNat) = some (.int .i64 (rd t265 x14_4)) ∧ w'.cell? (ad274.add (((rd t265 x14_4)).toNat * 4)) = some (.int .i64 ((rd_T80 l4 (rd t265 x14_4)).f0)) ∧ w'.cell? ⟨(ad274.add (((rd t265 x14_4)).toNat * 4)).block, (ad274.add (((rd t265 x14_4)).toNat * 4)).off + 1, none⟩ = some (.int .i64 ((rd_T80 l4 (rd t265 x14_4)).f1)) ∧ w'.cell? ⟨(ad274.add (((rd t265 x14_4)).toNat * 4)).block, (ad274.add (((rd t265 x14_4)).toNat * 4)).off + 2, none⟩ = some (.int .i64 ((rd_T80 l4 (rd t265 x14_4)).f2)) ∧ w'.cell? ⟨(ad274.add (((rd t265 x14_4)).toNat * 4)).block, (ad274.add (((rd t265 x14_4)).toNat * 4)).off + 3, none⟩ = some (.bool ((rd_T80 l4 (rd t265 x14_4)).f3))) (ds := []) (bA 16 0) (by kernel_rfl) rfl rfl (andc6 BK251.out ⟨hx272_0, hx273_0, (swB HB.out hw274_0), (swB HB.out hw274_1), (swB HB.out hw274_2), (swB HB.out hw274_3)⟩) (fun hHeld => ?_); refine with_tabW spec_l07Candidates.tab12 spec_l07Candidates.bits12 (fun HT_ HW_ => ?_)
      generalize wc.drew = w56 at HO_11 HO_13 BK251 HB hx272_0 hx273_0 hx274_0 hx274_1 hx274_2 hx274_3 hHeld ⊢
      refine pu_ 1 77 (bA 16 2) HT_ ?_
      refine pu_ 2 78 (bA 16 6) HT_ ?_
      refine pu_ 3 79 (bA 16 14) HT_ ?_
      refine pu_ 4 80 (bA 16 30) HT_ ?_
      refine pu_ 6 82 (bA 16 94) HT_ ?_
      refine pu_ 7 83 (bA 16 222) HT_ ?_
      refine pu_ 8 84 (bA 16 478) HT_ ?_
      refine pu_ 9 85 (bA 16 990) HT_ ?_
      refine tk_ 0 76 (bA 16 991) HT_ HW_ hHeld ?_
      refine tk_ 5 81 (bA 16 1023) HT_ HW_ hHeld ?_
      refine tk_ 10 86 (bA 16 2047) HT_ HW_ hHeld ?_
      refine pu_ 11 87 (bA 16 4095) HT_ ?_
      refine tk_ 12 88 (bA 16 8191) HT_ HW_ hHeld ?_
      refine join_ (σ := Nat) 1 (bA 16 32767) (fun s_ => [(89, .agg #[.int .i64 t275, .int .i64 t276, .int .i64 t277, .bool t278]), (15, .pointer (some ⟨s_, 0, none⟩))]) (fun s_ w' => (w'.cell? ⟨gb251, 0, none⟩ = some (.slice A0_0 l0_0.length c0_0) ∧ w'.cell? ⟨gb251, 1, none⟩ = some (.slice A0_1 l0_1.length c0_1) ∧ w'.cell? ⟨gb251, 2, none⟩ = some (.slice A0_2 l0_2.length c0_2) ∧ w'.cell? ⟨gb251, 3, none⟩ = some (.slice A0_3 l0_3.length c0_3) ∧ w'.cell? ⟨gb251, 4, none⟩ = some (.slice A0_4 l0_4.length c0_4) ∧ w'.cell? ⟨gb251, 5, none⟩ = some (.slice A0_5 l0_5.length c0_5) ∧ w'.cell? (ad272.add (x14_4).toNat) = some (.int .i64 (rd t265 x14_4)) ∧ w'.cell? (ad272.add (x14_4).toNat) = some (.int .i64 (rd t265 x14_4)) ∧ w'.cell? (ad274.add (((rd t265 x14_4)).toNat * 4)) = some (.int .i64 ((rd_T80 l4 (rd t265 x14_4)).f0)) ∧ w'.cell? ⟨(ad274.add (((rd t265 x14_4)).toNat * 4)).block, (ad274.add (((rd t265 x14_4)).toNat * 4)).off + 1, none⟩ = some (.int .i64 ((rd_T80 l4 (rd t265 x14_4)).f1)) ∧ w'.cell? ⟨(ad274.add (((rd t265 x14_4)).toNat * 4)).block, (ad274.add (((rd t265 x14_4)).toNat * 4)).off + 2, none⟩ = some (.int .i64 ((rd_T80 l4 (rd t265 x14_4)).f2)) ∧ w'.cell? ⟨(ad274.add (((rd t265 x14_4)).toNat * 4)).block, (ad274.add (((rd t265 x14_4)).toNat * 4)).off + 3, none⟩ = some (.bool ((rd_T80 l4 (rd t265 x14_4)).f3))) ∧ (Kd.R k80 58 w' w.heap.size (fun k_ => k_ ≠ s_) u11 x11_4) ∧ (Kd.R (Kd.int .i64) 3 w' w.heap.size (fun _ => True) (.slice (some ad272) t265.length co32) t265) ∧ (w'.heap[gb251]? = some (.cells #[.slice A0_0 l0_0.length c0_0, .slice A0_1 l0_1.length c0_1, .slice A0_2 l0_2.length c0_2, .slice A0_3 l0_3.length c0_3, .slice A0_4 l0_4.length c0_4, .slice A0_5 l0_5.length c0_5] 38 (0, 0))) ∧ (w'.heap[s_]? = some (.cells #[.int .i64 0, .int .i64 0, .int .i64 0, .bool false] 58 (0, 0))) ∧ (w.heap.size ≤ s_) ∧ (w.heap.size ≤ s_) ∧ (gb251 ≠ s_) ∧ (s_ ≠ gb251) ∧ (Below w.heap.size w w')) ?_ ?_
      rotate_left
      ·intro hCont
       refine two_ (i := 13) (j := 14) (Ni := some 89) (Nj := some 15) (bA 16 16383) (bA 16 24575) rfl rfl rfl rfl (two_of HT_.out (by kernel_rfl)) (by decide) (by decide) (fun K hK => ?_) (fun K hK => ?_)
       ·skip
        refine goes_ Tryz.func54 (by kernel_rfl) rfl #[.agg #[.slice A0_0 l0_0.length c0_0, .slice A0_1 l0_1.length c0_1, .slice A0_2 l0_2.length c0_2, .slice A0_3 l0_3.length c0_3, .slice A0_4 l0_4.length c0_4, .slice A0_5 l0_5.length c0_5], .int .i64 a1, .int .i64 (rd t265 x14_4), .agg #[.int .i64 ((rd_T80 l4 (rd t265 x14_4)).f0), .int .i64 ((rd_T80 l4 (rd t265 x14_4)).f1), .int .i64 ((rd_T80 l4 (rd t265 x14_4)).f2), .bool ((rd_T80 l4 (rd t265 x14_4)).f3)]] (by rfl) rfl rfl (by (try simp only [List.map_toArray, List.map_cons, List.map_nil]); rfl) ?_
        with_reducible refine (spec_l07Import.calls kj30 _ _ l0_0 _ _ l0_1 _ _ l0_2 _ _ l0_3 _ _ l0_4 _ _ l0_5 a1 (rd t265 x14_4) ((rd_T80 l4 (rd t265 x14_4)).f0) ((rd_T80 l4 (rd t265 x14_4)).f1) ((rd_T80 l4 (rd t265 x14_4)).f2) ((rd_T80 l4 (rd t265 x14_4)).f3) t275 t276 t277 t278 _ ?side1 ?side2 ?side3 ?side4 ?side5 ?side6 ?side7 ?side8 ?side9 ?side10 ?side11 ?side12 A43.out).mono ?_
        (case side1 => exact (Kd.C_below HR0_0.out HB.out))
        (case side2 => exact HC0_0.out)
        (case side3 => exact (Kd.C_below HR0_1.out HB.out))
        (case side4 => exact HC0_1.out)
        (case side5 => exact (Kd.C_below HR0_2.out HB.out))
        (case side6 => exact HC0_2.out)
        (case side7 => exact (Kd.C_below HR0_3.out HB.out))
        (case side8 => exact HC0_3.out)
        (case side9 => exact (Kd.C_below HR0_4.out HB.out))
        (case side10 => exact HC0_4.out)
        (case side11 => exact (Kd.C_below HR0_5.out HB.out))
        (case side12 => exact HC0_5.out)
        rintro e w57 ⟨rfl, hb⟩
        have HS6_ := (hb.cell (World.block_lt_of_cell? _ _ (hHeld.2.2.2.2.2.2.1))).trans (hHeld.2.2.2.2.2.2.1)
        have HS7_ := (hb.cell (World.block_lt_of_cell? _ _ (hHeld.2.2.2.2.2.2.2.1))).trans (hHeld.2.2.2.2.2.2.2.1)
        refine ⟨_, rfl, ?_⟩
        replace HO_11 := aM (Kd.R_below HO_11.out hb)
        replace HO_13 := aM (Kd.R_below HO_13.out hb)
        replace BK251 := aK BK251 hb
        replace HB := aB HB hb
        (try clear hb)
        refine hK.out _ _ (andc6 BK251.out ⟨HS6_, HS7_, (swB HB.out hw274_0), (swB HB.out hw274_1), (swB HB.out hw274_2), (swB HB.out hw274_3)⟩) (fun hHeld => ?_)
        clear hK K
        refine norm_ (a' := ?_) ?_ ?_
        rotate_left
        ·show Act.put _ (some 89) _ = _
         simp only [Act.put, sb0, sb1, sb2, i64_w, i32_w]
         rfl
        refine one_ (i := 14) (N := some 15) (bA 16 32767) rfl rfl (one_of HT_.out (by kernel_rfl)) (by decide) (fun K hK => ?_)
        refine box_step ?hg (N := 15) ?hd (cs := #[.int .i64 0, .int .i64 0, .int .i64 0, .bool false]) (t := 58) ?hr ?_; (case hd => rfl); (case hg => rfl); (case hr => (go_simp; done))
        intro gb279 hg w58 hbox hb
        have HS6_ := (hb.cell (World.block_lt_of_cell? _ _ (hHeld.2.2.2.2.2.2.1))).trans (hHeld.2.2.2.2.2.2.1)
        have HS7_ := (hb.cell (World.block_lt_of_cell? _ _ (hHeld.2.2.2.2.2.2.2.1))).trans (hHeld.2.2.2.2.2.2.2.1)
        replace HO_11 := aM (Kd.R_below (Kd.R_elderB HO_11.out gb279 (Nat.le_of_eq hg.symm)) hb)
        replace HO_13 := aM (Kd.R_below HO_13.out hb)
        have BK279 := aM (hbox)
        have GW279 := bGE HB.out hg
        have GE279 := bGE HB.out hg
        replace HB := aB HB hb
        have NB251_279 := bLT BK251.out hg
        have NB279_251 := bGT BK251.out hg
        replace BK251 := aK BK251 hb
        clear hb hbox hg
        refine hK.out _ _ (andc6 BK251.out ⟨HS6_, HS7_, (swB HB.out hw274_0), (swB HB.out hw274_1), (swB HB.out hw274_2), (swB HB.out hw274_3)⟩) (fun hHeld => ?_)
        clear hK K
        refine norm_ (a' := ?_) ?_ ?_
        rotate_left
        ·show Act.put _ (some 15) _ = _
         simp only [Act.put, sb0, sb1, sb2, i64_w, i32_w]
         rfl
        exact norm_ (by simp only [putAll, Act.put, List.setIfInBounds_toArray, List.set_cons_zero, List.set_cons_succ]) (hCont (gb279) _ ⟨hHeld, (by exact Kd.R_mono HO_11.out (fun _ hk => hk.2)), HO_13.out, BK251.out, BK279.out, GW279.out, GE279.out, NB251_279.out, NB279_251.out, HB.out⟩)
       skip
       refine box_step ?hg (N := 15) ?hd (cs := #[.int .i64 0, .int .i64 0, .int .i64 0, .bool false]) (t := 58) ?hr ?_; (case hd => rfl); (case hg => rfl); (case hr => (go_simp; done))
       intro gb279 hg w57 hbox hb
       have HS6_ := (hb.cell (World.block_lt_of_cell? _ _ (hHeld.2.2.2.2.2.2.1))).trans (hHeld.2.2.2.2.2.2.1)
       have HS7_ := (hb.cell (World.block_lt_of_cell? _ _ (hHeld.2.2.2.2.2.2.2.1))).trans (hHeld.2.2.2.2.2.2.2.1)
       replace HO_11 := aM (Kd.R_below (Kd.R_elderB HO_11.out gb279 (Nat.le_of_eq hg.symm)) hb)
       replace HO_13 := aM (Kd.R_below HO_13.out hb)
       have BK279 := aM (hbox)
       have GW279 := bGE HB.out hg
       have GE279 := bGE HB.out hg
       replace HB := aB HB hb
       have NB251_279 := bLT BK251.out hg
       have NB279_251 := bGT BK251.out hg
       replace BK251 := aK BK251 hb
       clear hb hbox hg
       refine hK.out _ _ (andc6 BK251.out ⟨HS6_, HS7_, (swB HB.out hw274_0), (swB HB.out hw274_1), (swB HB.out hw274_2), (swB HB.out hw274_3)⟩) (fun hHeld => ?_)
       clear hK K
       refine norm_ (a' := ?_) ?_ ?_
       rotate_left
       ·show Act.put _ (some 15) _ = _
        simp only [Act.put, sb0, sb1, sb2, i64_w, i32_w]
        rfl
       refine one_ (i := 13) (N := some 89) (bA 16 32767) rfl rfl (one_of HT_.out (by kernel_rfl)) (by decide) (fun K hK => ?_)
       refine goes_ Tryz.func54 (by kernel_rfl) rfl #[.agg #[.slice A0_0 l0_0.length c0_0, .slice A0_1 l0_1.length c0_1, .slice A0_2 l0_2.length c0_2, .slice A0_3 l0_3.length c0_3, .slice A0_4 l0_4.length c0_4, .slice A0_5 l0_5.length c0_5], .int .i64 a1, .int .i64 (rd t265 x14_4), .agg #[.int .i64 ((rd_T80 l4 (rd t265 x14_4)).f0), .int .i64 ((rd_T80 l4 (rd t265 x14_4)).f1), .int .i64 ((rd_T80 l4 (rd t265 x14_4)).f2), .bool ((rd_T80 l4 (rd t265 x14_4)).f3)]] (by rfl) rfl rfl (by (try simp only [List.map_toArray, List.map_cons, List.map_nil]); rfl) ?_
       with_reducible refine (spec_l07Import.calls kj30 _ _ l0_0 _ _ l0_1 _ _ l0_2 _ _ l0_3 _ _ l0_4 _ _ l0_5 a1 (rd t265 x14_4) ((rd_T80 l4 (rd t265 x14_4)).f0) ((rd_T80 l4 (rd t265 x14_4)).f1) ((rd_T80 l4 (rd t265 x14_4)).f2) ((rd_T80 l4 (rd t265 x14_4)).f3) t275 t276 t277 t278 _ ?side1 ?side2 ?side3 ?side4 ?side5 ?side6 ?side7 ?side8 ?side9 ?side10 ?side11 ?side12 A43.out).mono ?_
       (case side1 => exact (Kd.C_below HR0_0.out HB.out))
       (case side2 => exact HC0_0.out)
       (case side3 => exact (Kd.C_below HR0_1.out HB.out))
       (case side4 => exact HC0_1.out)
       (case side5 => exact (Kd.C_below HR0_2.out HB.out))
       (case side6 => exact HC0_2.out)
       (case side7 => exact (Kd.C_below HR0_3.out HB.out))
       (case side8 => exact HC0_3.out)
       (case side9 => exact (Kd.C_below HR0_4.out HB.out))
       (case side10 => exact HC0_4.out)
       (case side11 => exact (Kd.C_below HR0_5.out HB.out))
       (case side12 => exact HC0_5.out)
       rintro e w58 ⟨rfl, hb⟩
       have HS6_ := (hb.cell (World.block_lt_of_cell? _ _ (hHeld.2.2.2.2.2.2.1))).trans (hHeld.2.2.2.2.2.2.1)
       have HS7_ := (hb.cell (World.block_lt_of_cell? _ _ (hHeld.2.2.2.2.2.2.2.1))).trans (hHeld.2.2.2.2.2.2.2.1)
       refine ⟨_, rfl, ?_⟩
       replace HO_11 := aM (Kd.R_below HO_11.out hb)
       replace HO_13 := aM (Kd.R_below HO_13.out hb)
       replace BK251 := aK BK251 hb
       replace BK279 := aK BK279 hb
       replace HB := aB HB hb
       (try clear hb)
       refine hK.out _ _ (andc6 BK251.out ⟨HS6_, HS7_, (swB HB.out hw274_0), (swB HB.out hw274_1), (swB HB.out hw274_2), (swB HB.out hw274_3)⟩) (fun hHeld => ?_)
       clear hK K
       refine norm_ (a' := ?_) ?_ ?_
       rotate_left
       ·show Act.put _ (some 89) _ = _
        simp only [Act.put, sb0, sb1, sb2, i64_w, i32_w]
        rfl
       exact norm_ (by simp only [putAll, Act.put, List.setIfInBounds_toArray, List.set_cons_zero, List.set_cons_succ]) (hCont (gb279) _ ⟨hHeld, (by exact Kd.R_mono HO_11.out (fun _ hk => hk.2)), HO_13.out, BK251.out, BK279.out, GW279.out, GE279.out, NB251_279.out, NB279_251.out, HB.out⟩)
      rintro gb279 w59 ⟨hHeld, h0_, h1_, h2_, h3_, h4_, h5_, h6_, h7_, h8_⟩
      replace HO_11 := aM h0_
      replace HO_13 := aM h1_
      replace BK251 := aM h2_
      have BK279 := aM h3_
      have GW279 := aM h4_
      have GE279 := aM h5_
      have NB251_279 := aM h6_
      have NB279_251 := aM h7_
      replace HB := aM h8_
      clear h0_ h1_ h2_ h3_ h4_ h5_ h6_ h7_ h8_
      refine norm_ (a' := ?_) ?_ ?_
      rotate_left
      ·simp only [putAll, Act.put, List.setIfInBounds_toArray, List.set_cons_zero, List.set_cons_succ]
       rfl
      refine one_ (i := 15) (N := none) (bA 16 65535) rfl rfl (one_of HT_.out (by kernel_rfl)) (by decide) (fun K hK => ?_)
      have hs60 : w59.cell? ⟨gb279, 0, none⟩ = some (.int .i64 0) := (blk_cell BK279.out 0).trans rfl
      have hfs60 := blk_frozen BK279.out 0
      have hns60_0 := NB251_279.out
      have hms60_0 := NB279_251.out
      have hs61 : w59.cell? ⟨gb279, 1, none⟩ = some (.int .i64 0) := (blk_cell BK279.out 1).trans rfl
      have hfs61 := blk_frozen BK279.out 1
      have hns61_0 := NB251_279.out
      have hms61_0 := NB279_251.out
      have hs62 : w59.cell? ⟨gb279, 2, none⟩ = some (.int .i64 0) := (blk_cell BK279.out 2).trans rfl
      have hfs62 := blk_frozen BK279.out 2
      have hns62_0 := NB251_279.out
      have hms62_0 := NB279_251.out
      have hs63 : w59.cell? ⟨gb279, 3, none⟩ = some (.bool false) := (blk_cell BK279.out 3).trans rfl
      have hfs63 := blk_frozen BK279.out 3
      have hns63_0 := NB251_279.out
      have hms63_0 := NB279_251.out
      refine skip_ (w1 := ?_) (by rfl) rfl ?_ ?_
      rotate_left
      ·go_simp
       rfl
      refine hK.out _ _ ⟨(cf4 NB251_279.out hHeld.1), (cf4 NB251_279.out hHeld.2.1), (cf4 NB251_279.out hHeld.2.2.1), (cf4 NB251_279.out hHeld.2.2.2.1), (cf4 NB251_279.out hHeld.2.2.2.2.1), (cf4 NB251_279.out hHeld.2.2.2.2.2.1), (cf4 (by (rw [add_block]; exact Kd.own_blk (Kd.R_ne HO_13.out BK279.out (by decide)))) hHeld.2.2.2.2.2.2.1), (cf4 (by (rw [add_block]; exact Kd.own_blk (Kd.R_ne HO_13.out BK279.out (by decide)))) hHeld.2.2.2.2.2.2.2.1), (cf4 (by exact Nat.ne_of_lt (Nat.lt_of_lt_of_le (by have := World.block_lt_of_cell? _ _ hw274_0; exact this) GW279.out)) hHeld.2.2.2.2.2.2.2.2.1), (cf4 (by exact Nat.ne_of_lt (Nat.lt_of_lt_of_le (by have := World.block_lt_of_cell? _ _ hw274_1; exact this) GW279.out)) hHeld.2.2.2.2.2.2.2.2.2.1), (cf4 (by exact Nat.ne_of_lt (Nat.lt_of_lt_of_le (by have := World.block_lt_of_cell? _ _ hw274_2; exact this) GW279.out)) hHeld.2.2.2.2.2.2.2.2.2.2.1), (cf4 (by exact Nat.ne_of_lt (Nat.lt_of_lt_of_le (by have := World.block_lt_of_cell? _ _ hw274_3; exact this) GW279.out)) hHeld.2.2.2.2.2.2.2.2.2.2.2)⟩ (fun hHeld => ?_)
      clear hK K
      refine done_ (done_of HT_.out (by kernel_rfl)) ?_
      have hnb64 := NB279_251.out
      have hnc64 := NB251_279.out
      obtain ⟨hcz65_0, hcz65_1, hcz65_2, hcz65_3⟩ := swc4 BK279.out
      obtain ⟨hfz65_0, hfz65_1, hfz65_2, hfz65_3⟩ := swf4 BK279.out
      obtain ⟨H⟩ := HCz
      by_cases c44 : t275 = (-3)
      ·rw [if_pos c44] at H
       have c44b0 := beq_iff_eq.mpr c44
       have c44b1 : (t275 != (-3)) = false := bne_eq_false_iff_eq.mpr c44
       clear c44
       have H' := aM H
       clear H
       try go_wp2
       go_roundg kj30
       case measure => have := HJ6.out; have := HJ15.out; have := HJ20.out; have := HK4.out; have := HJ30.out; omega
       case rel => exact ⟨(x11_4), (wrap64 (x14_4 + 1)), (by rfl), H', ⟨by have := HJ6.out; have := HJ15.out; have := HJ20.out; have := HK4.out; have := HJ30.out; omega⟩, ⟨by exact Kd.R_mono (Kd.R_far (p := ⟨gb279, 3, none⟩) (Kd.R_far (p := ⟨gb279, 2, none⟩) (Kd.R_far (p := ⟨gb279, 1, none⟩) (Kd.R_far (p := ⟨gb279, 0, none⟩) (Kd.R_mono HO_11.out (fun k_ hk => (⟨hk, hk⟩ : _ ∧ k_ ≠ gb279))) (fun _ hk => hk.2) (.int .i64 t275)) (fun _ hk => hk.2) (.int .i64 t276)) (fun _ hk => hk.2) (.int .i64 t277)) (fun _ hk => hk.2) (.bool t278)) (fun _ hk => trivial)⟩, ⟨by exact Kd.R_mono (Kd.R_far (p := ⟨gb279, 3, none⟩) (Kd.R_far (p := ⟨gb279, 2, none⟩) (Kd.R_far (p := ⟨gb279, 1, none⟩) (Kd.R_far (p := ⟨gb279, 0, none⟩) (Kd.R_types HO_13.out BK279.out (by decide)) (fun _ hk => hk.2) (.int .i64 t275)) (fun _ hk => hk.2) (.int .i64 t276)) (fun _ hk => hk.2) (.int .i64 t277)) (fun _ hk => hk.2) (.bool t278)) (fun _ hk => trivial)⟩, ⟨by refine blk_far ?_ NB251_279.out _; refine blk_far ?_ NB251_279.out _; refine blk_far ?_ NB251_279.out _; refine blk_far ?_ NB251_279.out _; exact BK251.out⟩, ⟨by repeat ((with_reducible first | exact HB.out | refine below_set ?_ GE279.out))⟩⟩
      rw [if_neg c44] at H
      have c44b0 := beq_eq_false_iff_ne.mpr c44
      have c44b1 : (t275 != (-3)) = true := bne_iff_ne.mpr c44
      obtain ⟨c55, H⟩ := iP H
      have LMc55 := aM c55
      clear c55
      obtain ⟨y280, hy280⟩ : ∃ y_ : List (S80), y_ = (x11_4 ++ [(⟨t275, t276, t277, t278⟩ : S80)]) := ⟨_, rfl⟩
      replace H : (spec_l07Candidates.l0 kj30 a1 l4 y280 t265 (wrap64 (x14_4 + 1)) l0_0 l0_1 l0_2 l0_3 l0_4 l0_5) = some r := by (rw [hy280]; with_reducible exact H)
      have Ny280 := aM hy280
      clear hy280
      have H' := aM H
      clear H
      try go_wp2_with (((with_reducible refine gate_builtin (b := .append) (xs := #[.tmp 93, .tmp 95]) rfl ?_); at_builtin; refine Kd.R_append k80 (w0 := w) w.heap.size rfl (.tmp 93) (.tmp 95) 31 58 (.agg #[(.int .i64 0), (.int .i64 0), (.int .i64 0), (.bool false)]) 32 rfl Tryz.underlying31 info80 rfl (by decide) (by omega) u11 x11_4 (⟨t275, t276, t277, t278⟩ : S80) [.int .i64 t275, .int .i64 t276, .int .i64 t277, .bool t278] (fun k_ => k_ ≠ gb279) (fun _ => False) rfl (by (go_simp; done)) ?aP (fun _ hk => hk.elim) ?aF ?aO ?aB ?aS ?aL ?_; (case aP => exact k80_mkM _ _ _ (⟨t275, t276, t277, t278⟩ : S80)); (case aB => exact (by repeat ((with_reducible first | exact HB.out | refine below_set ?_ GE279.out)))); (case aF => exact (fun k_ hk => Kd.freshB (g := gb279) (o := .cells #[.int .i64 t275, .int .i64 t276, .int .i64 t277, .bool t278] 58 (0, 0)) (by refine blk_put (cs := #[.int .i64 t275, .int .i64 t276, .int .i64 t277, .bool false]) ?_ 3 _ rfl; refine blk_put (cs := #[.int .i64 t275, .int .i64 t276, .int .i64 0, .bool false]) ?_ 2 _ rfl; refine blk_put (cs := #[.int .i64 t275, .int .i64 0, .int .i64 0, .bool false]) ?_ 1 _ rfl; refine blk_put (cs := #[.int .i64 0, .int .i64 0, .int .i64 0, .bool false]) ?_ 0 _ rfl; exact BK279.out) k_ hk)); (case aO => exact (by exact Kd.R_mono (Kd.R_far (p := ⟨gb279, 3, none⟩) (Kd.R_far (p := ⟨gb279, 2, none⟩) (Kd.R_far (p := ⟨gb279, 1, none⟩) (Kd.R_far (p := ⟨gb279, 0, none⟩) (Kd.R_mono HO_11.out (fun k_ hk => (⟨hk, hk⟩ : _ ∧ k_ ≠ gb279))) (fun _ hk => hk.2) (.int .i64 t275)) (fun _ hk => hk.2) (.int .i64 t276)) (fun _ hk => hk.2) (.int .i64 t277)) (fun _ hk => hk.2) (.bool t278)) (fun _ hk => hk.1))); (case aS => exact (below_size (by repeat ((with_reducible first | exact HB.out | refine below_set ?_ GE279.out))))); (case aL => have := LMc55.out; omega); intro v281 w66 ho hb hg hat; rw [← Ny280.out] at ho; replace HO_13 := aM (Kd.R_over' (by exact (Kd.R_mono (Kd.R_far (p := ⟨gb279, 3, none⟩) (Kd.R_far (p := ⟨gb279, 2, none⟩) (Kd.R_far (p := ⟨gb279, 1, none⟩) (Kd.R_far (p := ⟨gb279, 0, none⟩) (Kd.R_types HO_13.out BK279.out (by decide)) (fun _ hk => hk.2) (.int .i64 t275)) (fun _ hk => hk.2) (.int .i64 t276)) (fun _ hk => hk.2) (.int .i64 t277)) (fun _ hk => hk.2) (.bool t278)) (fun _ h_ => h_.1))) (Kd.R_typed (by exact (Kd.R_mono (Kd.R_far (p := ⟨gb279, 3, none⟩) (Kd.R_far (p := ⟨gb279, 2, none⟩) (Kd.R_far (p := ⟨gb279, 1, none⟩) (Kd.R_far (p := ⟨gb279, 0, none⟩) (Kd.R_mono HO_11.out (fun k_ hk => (⟨hk, hk⟩ : _ ∧ k_ ≠ gb279))) (fun _ hk => hk.2) (.int .i64 t275)) (fun _ hk => hk.2) (.int .i64 t276)) (fun _ hk => hk.2) (.int .i64 t277)) (fun _ hk => hk.2) (.bool t278)) (fun _ h_ => h_.1)))) (by decide) hg); replace BK251 := aM (blk_grown (g := gb251) (o := .cells #[.slice A0_0 l0_0.length c0_0, .slice A0_1 l0_1.length c0_1, .slice A0_2 l0_2.length c0_2, .slice A0_3 l0_3.length c0_3, .slice A0_4 l0_4.length c0_4, .slice A0_5 l0_5.length c0_5] 38 (0, 0)) (by refine blk_far ?_ NB251_279.out _; refine blk_far ?_ NB251_279.out _; refine blk_far ?_ NB251_279.out _; refine blk_far ?_ NB251_279.out _; exact BK251.out) hg (Kd.R_ne HO_11.out BK251.out (by decide))); replace BK279 := aM (blk_grown (g := gb279) (o := .cells #[.int .i64 t275, .int .i64 t276, .int .i64 t277, .bool t278] 58 (0, 0)) (by refine blk_put (cs := #[.int .i64 t275, .int .i64 t276, .int .i64 t277, .bool false]) ?_ 3 _ rfl; refine blk_put (cs := #[.int .i64 t275, .int .i64 t276, .int .i64 0, .bool false]) ?_ 2 _ rfl; refine blk_put (cs := #[.int .i64 t275, .int .i64 0, .int .i64 0, .bool false]) ?_ 1 _ rfl; refine blk_put (cs := #[.int .i64 0, .int .i64 0, .int .i64 0, .bool false]) ?_ 0 _ rfl; exact BK279.out) hg (Kd.R_away HO_11.out (fun _ hk => hk))); replace HB := aM (hb); have HO282 := aM (ho); clear HO_11; clear ho hb hg hat))
      go_roundg kj30
      case measure => have := HJ6.out; have := HJ15.out; have := HJ20.out; have := HK4.out; have := HJ30.out; omega
      case rel => exact ⟨(y280), (wrap64 (x14_4 + 1)), (by rfl), H', ⟨by have := HJ6.out; have := HJ15.out; have := HJ20.out; have := HK4.out; have := HJ30.out; omega⟩, ⟨by exact Kd.R_mono HO282.out (fun _ hk => trivial)⟩, ⟨by exact HO_13.out⟩, ⟨by exact BK251.out⟩, ⟨by repeat ((with_reducible exact HB.out))⟩⟩
end Go.Proofs.YtgibacfgjmdjdaaGreat.PFnExactIsStable
end
section
namespace Go.Proofs.YtgibacfgjmdjdaaGreat.PFnExactIsStable
open Go.RowKit Go.Proofs.YtgibacfgjmdjdaaGreatW.PrintWords Go.Proofs.YtgibacfgjmdjdaaGreatW.PrintLast Go.Proofs.YtgibacfgjmdjdaaGreatW.PrintMore
attribute [local go_sem] max2_int min2_int max_two min_two max_three min_three max_four min_four   -- for this text's walks alone
set_option linter.unusedVariables false
set_option maxHeartbeats 8000000
set_option maxRecDepth 100000
set_option linter.unusedSimpArgs false
def spec_l07Better.f (a0_0 : Int) (a0_1 : Int) (a0_2 : Int) (a0_3 : Bool) (a1_0 : Int) (a1_1 : Int) (a1_2 : Int) (a1_3 : Bool) : Option (Bool) := if a0_1 = a1_1 then (if a0_2 = a1_2 then (some (decide (a0_0 < a1_0))) else (some (decide (a0_2 < a1_2)))) else (some (decide (a0_1 > a1_1)))
theorem spec_l07Better.calls (a0_0 a0_1 a0_2 a0_3 a1_0 a1_1 a1_2 a1_3 r w) (h : spec_l07Better.f a0_0 a0_1 a0_2 a0_3 a1_0 a1_1 a1_2 a1_3 = some r) :
  Calls Tryz.prog 50 #[.agg #[.int .i64 a0_0, .int .i64 a0_1, .int .i64 a0_2, .bool a0_3], .agg #[.int .i64 a1_0, .int .i64 a1_1, .int .i64 a1_2, .bool a1_3]] w fun e w' => e = .returned (.bool r) ∧ Below w.heap.size w w' := by
 have hu80 := Tryz.underlying58
 have HB := aM (Below.refl w.heap.size w)
 have H : (if a0_1 = a1_1 then (if a0_2 = a1_2 then (some (decide (a0_0 < a1_0))) else (some (decide (a0_2 < a1_2)))) else (some (decide (a0_1 > a1_1)))) = some r := h
 clear h
 by_cases c3 : a0_1 = a1_1
 rotate_left
 ·rw [if_neg c3] at H
  have c3b0 := beq_eq_false_iff_ne.mpr c3
  have c3b1 : (a0_1 != a1_1) = true := bne_iff_ne.mpr c3
  obtain rfl := Option.some.inj H
  go_enter Tryz.func50, Tryz.ntmps50
  go_wp2_with (first | ((with_reducible refine gate_dst (N := 2) rfl ?_); refine bxE HB ?_; intro gb283 hg w15 hb BK283 GW283 GE283 HB; clear hb hg) | ((with_reducible refine gate_dst (N := 3) rfl ?_); refine bxE HB ?_; intro gb284 hg w16 hb BK284 GW284 GE284 HB; have NB283_284 := bLT BK283.out hg; have NB284_283 := bGT BK283.out hg; replace BK283 := aK BK283 hb; clear hb hg; have hnb17 := NB283_284.out; have hnc17 := NB284_283.out; obtain ⟨hcz18_0, hcz18_1, hcz18_2, hcz18_3⟩ := swc4 BK283.out; obtain ⟨hfz18_0, hfz18_1, hfz18_2, hfz18_3⟩ := swf4 BK283.out; obtain ⟨hcz19_0, hcz19_1, hcz19_2, hcz19_3⟩ := swc4 BK284.out; obtain ⟨hfz19_0, hfz19_1, hfz19_2, hfz19_3⟩ := swf4 BK284.out))
  go_ret
  exact ⟨by rfl, by repeat ((with_reducible exact HB.out))⟩
 rw [if_pos c3] at H
 have c3b0 := beq_iff_eq.mpr c3
 have c3b1 : (a0_1 != a1_1) = false := bne_eq_false_iff_eq.mpr c3
 clear c3
 by_cases c4 : a0_2 = a1_2
 ·rw [if_pos c4] at H
  have c4b0 := beq_iff_eq.mpr c4
  have c4b1 : (a0_2 != a1_2) = false := bne_eq_false_iff_eq.mpr c4
  clear c4
  obtain rfl := Option.some.inj H
  go_enter Tryz.func50, Tryz.ntmps50
  go_wp2_with (first | ((with_reducible refine gate_dst (N := 2) rfl ?_); refine bxE HB ?_; intro gb283 hg w5 hb BK283 GW283 GE283 HB; clear hb hg) | ((with_reducible refine gate_dst (N := 3) rfl ?_); refine bxE HB ?_; intro gb284 hg w6 hb BK284 GW284 GE284 HB; have NB283_284 := bLT BK283.out hg; have NB284_283 := bGT BK283.out hg; replace BK283 := aK BK283 hb; clear hb hg; have hnb7 := NB283_284.out; have hnc7 := NB284_283.out; obtain ⟨hcz8_0, hcz8_1, hcz8_2, hcz8_3⟩ := swc4 BK283.out; obtain ⟨hfz8_0, hfz8_1, hfz8_2, hfz8_3⟩ := swf4 BK283.out; obtain ⟨hcz9_0, hcz9_1, hcz9_2, hcz9_3⟩ := swc4 BK284.out; obtain ⟨hfz9_0, hfz9_1, hfz9_2, hfz9_3⟩ := swf4 BK284.out))
  go_ret
  exact ⟨by rfl, by repeat ((with_reducible exact HB.out))⟩
 rw [if_neg c4] at H
 have c4b0 := beq_eq_false_iff_ne.mpr c4
 have c4b1 : (a0_2 != a1_2) = true := bne_iff_ne.mpr c4
 obtain rfl := Option.some.inj H
 go_enter Tryz.func50, Tryz.ntmps50
 go_wp2_with (first | ((with_reducible refine gate_dst (N := 2) rfl ?_); refine bxE HB ?_; intro gb283 hg w10 hb BK283 GW283 GE283 HB; clear hb hg) | ((with_reducible refine gate_dst (N := 3) rfl ?_); refine bxE HB ?_; intro gb284 hg w11 hb BK284 GW284 GE284 HB; have NB283_284 := bLT BK283.out hg; have NB284_283 := bGT BK283.out hg; replace BK283 := aK BK283 hb; clear hb hg; have hnb12 := NB283_284.out; have hnc12 := NB284_283.out; obtain ⟨hcz13_0, hcz13_1, hcz13_2, hcz13_3⟩ := swc4 BK283.out; obtain ⟨hfz13_0, hfz13_1, hfz13_2, hfz13_3⟩ := swf4 BK283.out; obtain ⟨hcz14_0, hcz14_1, hcz14_2, hcz14_3⟩ := swc4 BK284.out; obtain ⟨hfz14_0, hfz14_1, hfz14_2, hfz14_3⟩ := swf4 BK284.out))
 go_ret
 exact ⟨by rfl, by repeat ((with_reducible exact HB.out))⟩
def spec_l07Best.l0 : Nat → List (S80) → Int → Int → Int → Int → Bool → Option (Int × Int × Int × Bool)
 | 0, _, _, _, _, _, _ => none
 | k + 1, x0, x4, x291000, x291001, x291002, x291003 => if x4 < (x0.length : Int) then (if x291000 = (-3) then (if 0 ≤ x4 then (spec_l07Best.l0 k x0 (wrap64 (x4 + 1)) ((rd_T80 x0 x4).f0) ((rd_T80 x0 x4).f1) ((rd_T80 x0 x4).f2) ((rd_T80 x0 x4).f3)) else (none)) else (if 0 ≤ x4 then ((spec_l07Better.f ((rd_T80 x0 x4).f0) ((rd_T80 x0 x4).f1) ((rd_T80 x0 x4).f2) ((rd_T80 x0 x4).f3) x291000 x291001 x291002 x291003).bind fun t293 => (if t293 = true then (spec_l07Best.l0 k x0 (wrap64 (x4 + 1)) ((rd_T80 x0 x4).f0) ((rd_T80 x0 x4).f1) ((rd_T80 x0 x4).f2) ((rd_T80 x0 x4).f3)) else (spec_l07Best.l0 k x0 (wrap64 (x4 + 1)) x291000 x291001 x291002 x291003))) else (none))) else (some (x291000, x291001, x291002, x291003))
def spec_l07Best.f (k : Nat) (l0 : List (S80)) : Option (Int × Int × Int × Bool) := (spec_l07None.f).bind fun bt286 => (spec_l07Best.l0 k l0 0 bt286.1 bt286.2.1 bt286.2.2.1 bt286.2.2.2)
def spec_l07Best.T5 : Bool × List (List Nat × List Nat) := (true, [([], []), ([0], [0]), ([1], [1]), ([2], [2]), ([3], [3]), ([3], [3]), ([4, 5, 3], [3, 4, 5]), ([6, 3], [3, 6]), ([3], [3]), ([7, 8, 3, 3], [3, 7, 8]), ([3, 9], [3, 9])])
def spec_l07Best.B5 : List Nat := [0, 1, 3, 7, 15, 15, 63, 127, 15, 511, 1023]
theorem spec_l07Best.tab5 : rtab .any (opsOf Tryz.f27 5) = spec_l07Best.T5 := by kernel_rfl
theorem spec_l07Best.bits5 : waitsOk spec_l07Best.T5.2 spec_l07Best.B5 = true := by kernel_rfl
theorem spec_l07Best.calls (k A0 c0 l0 r1 r2 r3 r4 w) (hr0 : Kd.C k80 w A0 l0.length l0) (hc0 : l0.length ≤ c0) (h : spec_l07Best.f k l0 = some (r1, r2, r3, r4)) :
  Calls Tryz.prog 27 #[.slice A0 l0.length c0] w fun e w' => e = .returned (.agg #[.int .i64 r1, .int .i64 r2, .int .i64 r3, .bool r4]) ∧ Below w.heap.size w w' := by
 have hu80 := Tryz.underlying58
 have HR0 := aM hr0
 have HC0 := aM hc0
 clear hr0 hc0
 have HB := aM (Below.refl w.heap.size w)
 have H : ((spec_l07None.f).bind fun bt286 => (spec_l07Best.l0 k l0 0 bt286.1 bt286.2.1 bt286.2.2.1 bt286.2.2.2)) = some (r1, r2, r3, r4) := h
 clear h
 obtain ⟨⟨t286, t287, t288, t289⟩, A2, H⟩ := bA_ H
 have H' := aM H
 clear H
 go_enter Tryz.func27, Tryz.ntmps27
 go_wp2_with (first | ((with_reducible refine gate_dst (N := 2) rfl ?_); refine bxE HB ?_; intro gb285 hg w3 hb BK285 GW285 GE285 HB; clear hb hg) | (go_at_call 26; (with_reducible refine (spec_l07None.calls  t286 t287 t288 t289 _ A2.out).mono ?_); rintro e w4 ⟨rfl, hb⟩; replace BK285 := aK BK285 hb; replace HB := aB HB hb; (try clear hb)) | ((with_reducible refine gate_dst (N := 3) rfl ?_); refine bxE HB ?_; intro gb290 hg w5 hb BK290 GW290 GE290 HB; have NB285_290 := bLT BK285.out hg; have NB290_285 := bGT BK285.out hg; replace BK285 := aK BK285 hb; clear hb hg; have hnb6 := NB290_285.out; have hnc6 := NB285_290.out; obtain ⟨hcz7_0, hcz7_1, hcz7_2, hcz7_3⟩ := swc4 BK290.out; obtain ⟨hfz7_0, hfz7_1, hfz7_2, hfz7_3⟩ := swf4 BK290.out))
 go_loopg [4] k (fun kq v4 w' => ∃ (x4_1 : Int) (x291000_1 : Int) (x291001_1 : Int) (x291002_1 : Int) (x291003_1 : Bool), v4 = .int .i64 x4_1 ∧ Aside0 (spec_l07Best.l0 kq l0 x4_1 x291000_1 x291001_1 x291002_1 x291003_1 = some (r1, r2, r3, r4)) ∧ Aside0 (kq ≤ k) ∧ Aside0 (w'.heap[gb285]? = some (.cells #[.int .i64 0, .int .i64 0, .int .i64 0, .bool false] 58 (0, 0))) ∧ Aside0 (w'.heap[gb290]? = some (.cells #[.int .i64 x291000_1, .int .i64 x291001_1, .int .i64 x291002_1, .bool x291003_1] 58 (0, 0))) ∧ Aside0 (Below w.heap.size w w'))
 case atStart => exact ⟨(0), (t286), (t287), (t288), (t289), (by rfl), H', ⟨Nat.le_refl _⟩, ⟨by refine blk_far ?_ NB285_290.out _; refine blk_far ?_ NB285_290.out _; refine blk_far ?_ NB285_290.out _; refine blk_far ?_ NB285_290.out _; exact BK285.out⟩, ⟨by refine blk_put (cs := #[.int .i64 t286, .int .i64 t287, .int .i64 t288, .bool false]) ?_ 3 _ rfl; refine blk_put (cs := #[.int .i64 t286, .int .i64 t287, .int .i64 0, .bool false]) ?_ 2 _ rfl; refine blk_put (cs := #[.int .i64 t286, .int .i64 0, .int .i64 0, .bool false]) ?_ 1 _ rfl; refine blk_put (cs := #[.int .i64 0, .int .i64 0, .int .i64 0, .bool false]) ?_ 0 _ rfl; exact BK290.out⟩, ⟨by repeat ((with_reducible first | exact HB.out | refine below_set ?_ GE290.out))⟩⟩
 clear H'
 clear hcz7_0 hcz7_1 hcz7_2 hcz7_3 hfz7_0 hfz7_1 hfz7_2 hfz7_3
 obtain ⟨x4_1, x291000_1, x291001_1, x291002_1, x291003_1, rfl, HA, HK1, BK285, BK290, HB⟩ := hrel
 cases gk with
 | zero => exact absurd HA.out (by simp [spec_l07Best.l0])
 | succ k1 =>
  obtain ⟨H⟩ := HA
  simp only [spec_l07Best.l0] at H
  by_cases c8 : x4_1 < (l0.length : Int)
  rotate_left
  ·rw [if_neg c8] at H
   have c8b0 := decide_eq_false c8
   clear c8
   simp only [Option.some.injEq, Prod.mk.injEq] at H
   obtain ⟨rfl, rfl, rfl, rfl⟩ := H
   have hnb23 := NB290_285.out
   have hnc23 := NB285_290.out
   obtain ⟨hcz24_0, hcz24_1, hcz24_2, hcz24_3⟩ := swc4 BK290.out
   obtain ⟨hfz24_0, hfz24_1, hfz24_2, hfz24_3⟩ := swf4 BK290.out
   obtain ⟨hcz25_0, hcz25_1, hcz25_2, hcz25_3⟩ := swc4 BK285.out
   obtain ⟨hfz25_0, hfz25_1, hfz25_2, hfz25_3⟩ := swf4 BK285.out
   go_wp2
   refine bodyPost_ret (results_cell_row rfl _ _ gb285 58 #[.int .i64 x291000_1, .int .i64 x291001_1, .int .i64 x291002_1, .bool x291003_1] (0, 0) _ rfl (by refine blk_put (cs := #[.int .i64 x291000_1, .int .i64 x291001_1, .int .i64 x291002_1, .bool false]) ?_ 3 _ rfl; refine blk_put (cs := #[.int .i64 x291000_1, .int .i64 x291001_1, .int .i64 0, .bool false]) ?_ 2 _ rfl; refine blk_put (cs := #[.int .i64 x291000_1, .int .i64 0, .int .i64 0, .bool false]) ?_ 1 _ rfl; refine blk_put (cs := #[.int .i64 0, .int .i64 0, .int .i64 0, .bool false]) ?_ 0 _ rfl; exact BK285.out) Tryz.underlying58 rfl (by kernel_rfl)) rfl ?_
   exact ⟨by rfl, by repeat ((with_reducible first | exact HB.out | refine below_set ?_ GE285.out))⟩
  rw [if_pos c8] at H
  have c8b0 := decide_eq_true c8
  clear c8
  by_cases c9 : x291000_1 = (-3)
  ·rw [if_pos c9] at H
   have c9b0 := beq_iff_eq.mpr c9
   have c9b1 : (x291000_1 != (-3)) = false := bne_eq_false_iff_eq.mpr c9
   clear c9
   obtain ⟨c10b0, H⟩ := iD H
   have H' := aM H
   clear H
   try go_wp2
   replace BK285 := aM (blk_drew BK285.out)
   replace BK290 := aM (blk_drew BK290.out)
   replace HB := aM (below_drew1 HB.out)
   refine start_ (n := 11) (S := fun w' => w'.cell? ⟨gb290, 0, none⟩ = some (.int .i64 x291000_1) ∧ w'.cell? ⟨gb290, 1, none⟩ = some (.int .i64 x291001_1) ∧ w'.cell? ⟨gb290, 2, none⟩ = some (.int .i64 x291002_1) ∧ w'.cell? ⟨gb290, 3, none⟩ = some (.bool x291003_1)) (ds := []) (bA 11 0) (by kernel_rfl) rfl rfl ⟨(blk_cell BK290.out 0).trans rfl, (blk_cell BK290.out 1).trans rfl, (blk_cell BK290.out 2).trans rfl, (blk_cell BK290.out 3).trans rfl⟩ (fun hHeld => ?_); refine with_tabW spec_l07Best.tab5 spec_l07Best.bits5 (fun HT_ HW_ => ?_)
   generalize wr.drew = w11 at BK285 BK290 HB hHeld ⊢
   refine pu_ 0 12 (bA 11 1) HT_ ?_
   refine tk_ 1 13 (bA 11 3) HT_ HW_ hHeld ?_
   refine pu_ 2 14 (bA 11 7) HT_ ?_
   refine pu_ 3 15 (bA 11 15) HT_ ?_
   refine pure_ (i := 4) (N := some 16) (v := undef) (a' := ?_) (bA 11 31) rfl rfl (any_of HT_.out (by kernel_rfl)) (fun _ _ _ h => h) (Or.inr ⟨by rfl, rfl⟩) ?_ ?_
   rotate_left
   ·simp only [Act.put, sb0, sb1, sb2, i64_w, i32_w]
    rfl
   refine pure_ (i := 5) (N := some 17) (v := undef) (a' := ?_) (bA 11 63) rfl rfl (any_of HT_.out (by kernel_rfl)) (fun _ _ _ h => h) (Or.inr ⟨by rfl, rfl⟩) ?_ ?_
   rotate_left
   ·simp only [Act.put, sb0, sb1, sb2, i64_w, i32_w]
    rfl
   refine pure_ (i := 6) (N := some 18) (v := undef) (a' := ?_) (bA 11 127) rfl rfl (any_of HT_.out (by kernel_rfl)) (fun _ _ _ h => h) (Or.inr ⟨by rfl, rfl⟩) ?_ ?_
   rotate_left
   ·simp only [Act.put, sb0, sb1, sb2, i64_w, i32_w]
    rfl
   refine pure_ (i := 7) (N := some 19) (v := undef) (a' := ?_) (bA 11 255) rfl rfl (any_of HT_.out (by kernel_rfl)) (fun _ _ _ h => h) (Or.inr ⟨by rfl, rfl⟩) ?_ ?_
   rotate_left
   ·simp only [Act.put, sb0, sb1, sb2, i64_w, i32_w]
    rfl
   refine pure_ (i := 8) (N := some 20) (v := undef) (a' := ?_) (bA 11 511) rfl rfl (any_of HT_.out (by kernel_rfl)) (fun _ _ _ h => h) (Or.inr ⟨by rfl, rfl⟩) ?_ ?_
   rotate_left
   ·simp only [Act.put, sb0, sb1, sb2, i64_w, i32_w]
    rfl
   refine pure_ (i := 9) (N := some 21) (v := undef) (a' := ?_) (bA 11 1023) rfl rfl (any_of HT_.out (by kernel_rfl)) (fun _ _ _ h => h) (Or.inr ⟨by rfl, rfl⟩) ?_ ?_
   rotate_left
   ·simp only [Act.put, sb0, sb1, sb2, i64_w, i32_w]
    rfl
   refine pu_ 10 22 (bA 11 2047) HT_ ?_
   refine done_ (done_of HT_.out (by kernel_rfl)) ?_
   have p291 : 0 ≤ (x4_1 : Int) := oD ‹_›
   have q291 : x4_1 < (l0.length : Int) := oD ‹_›
   obtain ⟨ad291, e291, hx291_0, hx291_1, hx291_2, hx291_3⟩ := at_T80 HR0.out x4_1 p291 q291
   cases e291
   replace hx291_0 := swB HB.out hx291_0
   replace hx291_1 := swB HB.out hx291_1
   replace hx291_2 := swB HB.out hx291_2
   replace hx291_3 := swB HB.out hx291_3
   replace p291 := eq_true p291
   replace q291 := eq_true q291
   have hnb12 := NB290_285.out
   have hnc12 := NB285_290.out
   obtain ⟨hcz13_0, hcz13_1, hcz13_2, hcz13_3⟩ := swc4 BK290.out
   obtain ⟨hfz13_0, hfz13_1, hfz13_2, hfz13_3⟩ := swf4 BK290.out
   try go_wp2
   go_roundg k1
   case measure => have := HK1.out; omega
   case rel => exact ⟨(wrap64 (x4_1 + 1)), ((rd_T80 l0 x4_1).f0), ((rd_T80 l0 x4_1).f1), ((rd_T80 l0 x4_1).f2), ((rd_T80 l0 x4_1).f3), (by rfl), H', ⟨by have := HK1.out; omega⟩, ⟨by refine blk_far ?_ NB285_290.out _; refine blk_far ?_ NB285_290.out _; refine blk_far ?_ NB285_290.out _; refine blk_far ?_ NB285_290.out _; exact BK285.out⟩, ⟨by refine blk_put (cs := #[.int .i64 ((rd_T80 l0 x4_1).f0), .int .i64 ((rd_T80 l0 x4_1).f1), .int .i64 ((rd_T80 l0 x4_1).f2), .bool x291003_1]) ?_ 3 _ rfl; refine blk_put (cs := #[.int .i64 ((rd_T80 l0 x4_1).f0), .int .i64 ((rd_T80 l0 x4_1).f1), .int .i64 x291002_1, .bool x291003_1]) ?_ 2 _ rfl; refine blk_put (cs := #[.int .i64 ((rd_T80 l0 x4_1).f0), .int .i64 x291001_1, .int .i64 x291002_1, .bool x291003_1]) ?_ 1 _ rfl; refine blk_put (cs := #[.int .i64 x291000_1, .int .i64 x291001_1, .int .i64 x291002_1, .bool x291003_1]) ?_ 0 _ rfl; exact BK290.out⟩, ⟨by repeat ((with_reducible first | exact HB.out | refine below_set ?_ GE290.out))⟩⟩
  rw [if_neg c9] at H
  have c9b0 := beq_eq_false_iff_ne.mpr c9
  have c9b1 : (x291000_1 != (-3)) = true := bne_iff_ne.mpr c9
  obtain ⟨c14b0, H⟩ := iD H
  obtain ⟨t293, A15, H⟩ := bA_ H
  by_cases c16 : t293 = true
  rotate_left
  ·replace c16 := Bool.eq_false_iff.mpr c16
   subst c16
   rw [if_neg (show ¬ (false = true) by decide)] at H
   have H' := aM H
   clear H
   try go_wp2
   replace BK285 := aM (blk_drew BK285.out)
   replace BK290 := aM (blk_drew BK290.out)
   replace HB := aM (below_drew1 HB.out)
   have p292 : 0 ≤ (x4_1 : Int) := oD ‹_›
   have q292 : x4_1 < (l0.length : Int) := oD ‹_›
   obtain ⟨ad292, e292, hx292_0, hx292_1, hx292_2, hx292_3⟩ := at_T80 HR0.out x4_1 p292 q292
   have hw292_3 := hx292_3
   have hw292_2 := hx292_2
   have hw292_1 := hx292_1
   have hw292_0 := hx292_0
   cases e292
   replace hx292_0 := swB HB.out hx292_0
   replace hx292_1 := swB HB.out hx292_1
   replace hx292_2 := swB HB.out hx292_2
   replace hx292_3 := swB HB.out hx292_3
   replace p292 := eq_true p292
   replace q292 := eq_true q292
   refine start_ (n := 11) (S := fun w' => w'.cell? ⟨gb290, 0, none⟩ = some (.int .i64 x291000_1) ∧ w'.cell? ⟨gb290, 1, none⟩ = some (.int .i64 x291001_1) ∧ w'.cell? ⟨gb290, 2, none⟩ = some (.int .i64 x291002_1) ∧ w'.cell? ⟨gb290, 3, none⟩ = some (.bool x291003_1) ∧ w'.cell? (ad292.add ((x4_1).toNat * 4)) = some (.int .i64 ((rd_T80 l0 x4_1).f0)) ∧ w'.cell? ⟨(ad292.add ((x4_1).toNat * 4)).block, (ad292.add ((x4_1).toNat * 4)).off + 1, none⟩ = some (.int .i64 ((rd_T80 l0 x4_1).f1)) ∧ w'.cell? ⟨(ad292.add ((x4_1).toNat * 4)).block, (ad292.add ((x4_1).toNat * 4)).off + 2, none⟩ = some (.int .i64 ((rd_T80 l0 x4_1).f2)) ∧ w'.cell? ⟨(ad292.add ((x4_1).toNat * 4)).block, (ad292.add ((x4_1).toNat * 4)).off + 3, none⟩ = some (.bool ((rd_T80 l0 x4_1).f3))) (ds := []) (bA 11 0) (by kernel_rfl) rfl rfl (andc4 BK290.out ⟨(swB HB.out hw292_0), (swB HB.out hw292_1), (swB HB.out hw292_2), (swB HB.out hw292_3)⟩) (fun hHeld => ?_); refine with_tabW spec_l07Best.tab5 spec_l07Best.bits5 (fun HT_ HW_ => ?_)
   generalize wr.drew = w21 at BK285 BK290 HB hx292_0 hx292_1 hx292_2 hx292_3 hHeld ⊢
   refine pu_ 0 12 (bA 11 1) HT_ ?_
   refine tk_ 1 13 (bA 11 3) HT_ HW_ hHeld ?_
   refine pu_ 2 14 (bA 11 7) HT_ ?_
   refine pu_ 3 15 (bA 11 15) HT_ ?_
   refine pu_ 4 16 (bA 11 31) HT_ ?_
   refine pu_ 5 17 (bA 11 63) HT_ ?_
   refine pu_ 6 18 (bA 11 127) HT_ ?_
   refine tk_ 7 19 (bA 11 255) HT_ HW_ hHeld ?_
   refine tk_ 8 20 (bA 11 511) HT_ HW_ hHeld ?_
   refine one_ (i := 9) (N := some 21) (bA 11 1023) rfl rfl (one_of HT_.out (by kernel_rfl)) (by decide) (fun K hK => ?_)
   refine goes_ Tryz.func50 (by kernel_rfl) rfl #[.agg #[.int .i64 ((rd_T80 l0 x4_1).f0), .int .i64 ((rd_T80 l0 x4_1).f1), .int .i64 ((rd_T80 l0 x4_1).f2), .bool ((rd_T80 l0 x4_1).f3)], .agg #[.int .i64 x291000_1, .int .i64 x291001_1, .int .i64 x291002_1, .bool x291003_1]] (by rfl) rfl rfl (by (try simp only [List.map_toArray, List.map_cons, List.map_nil]); rfl) ?_
   with_reducible refine (spec_l07Better.calls ((rd_T80 l0 x4_1).f0) ((rd_T80 l0 x4_1).f1) ((rd_T80 l0 x4_1).f2) ((rd_T80 l0 x4_1).f3) x291000_1 x291001_1 x291002_1 x291003_1 false _ A15.out).mono ?_
   rintro e w22 ⟨rfl, hb⟩
   refine ⟨_, rfl, ?_⟩
   replace BK285 := aK BK285 hb
   replace BK290 := aK BK290 hb
   replace HB := aB HB hb
   (try clear hb)
   refine hK.out _ _ (andc4 BK290.out ⟨(swB HB.out hw292_0), (swB HB.out hw292_1), (swB HB.out hw292_2), (swB HB.out hw292_3)⟩) (fun hHeld => ?_)
   clear hK K
   refine norm_ (a' := ?_) ?_ ?_
   rotate_left
   ·show Act.put _ (some 21) _ = _
    simp only [Act.put, sb0, sb1, sb2, i64_w, i32_w]
    rfl
   refine pu_ 10 22 (bA 11 2047) HT_ ?_
   refine done_ (done_of HT_.out (by kernel_rfl)) ?_
   try go_wp2
   go_roundg k1
   case measure => have := HK1.out; omega
   case rel => exact ⟨(wrap64 (x4_1 + 1)), (x291000_1), (x291001_1), (x291002_1), (x291003_1), (by rfl), H', ⟨by have := HK1.out; omega⟩, ⟨by exact BK285.out⟩, ⟨by exact BK290.out⟩, ⟨by repeat ((with_reducible exact HB.out))⟩⟩
  subst c16
  rw [if_pos rfl] at H
  have H' := aM H
  clear H
  try go_wp2
  replace BK285 := aM (blk_drew BK285.out)
  replace BK290 := aM (blk_drew BK290.out)
  replace HB := aM (below_drew1 HB.out)
  have p292 : 0 ≤ (x4_1 : Int) := oD ‹_›
  have q292 : x4_1 < (l0.length : Int) := oD ‹_›
  obtain ⟨ad292, e292, hx292_0, hx292_1, hx292_2, hx292_3⟩ := at_T80 HR0.out x4_1 p292 q292
  have hw292_3 := hx292_3
  have hw292_2 := hx292_2
  have hw292_1 := hx292_1
  have hw292_0 := hx292_0
  cases e292
  replace hx292_0 := swB HB.out hx292_0
  replace hx292_1 := swB HB.out hx292_1
  replace hx292_2 := swB HB.out hx292_2
  replace hx292_3 := swB HB.out hx292_3
  replace p292 := eq_true p292
  replace q292 := eq_true q292
  refine start_ (n := 11) (S := fun w' => w'.cell? ⟨gb290, 0, none⟩ = some (.int .i64 x291000_1) ∧ w'.cell? ⟨gb290, 1, none⟩ = some (.int .i64 x291001_1) ∧ w'.cell? ⟨gb290, 2, none⟩ = some (.int .i64 x291002_1) ∧ w'.cell? ⟨gb290, 3, none⟩ = some (.bool x291003_1) ∧ w'.cell? (ad292.add ((x4_1).toNat * 4)) = some (.int .i64 ((rd_T80 l0 x4_1).f0)) ∧ w'.cell? ⟨(ad292.add ((x4_1).toNat * 4)).block, (ad292.add ((x4_1).toNat * 4)).off + 1, none⟩ = some (.int .i64 ((rd_T80 l0 x4_1).f1)) ∧ w'.cell? ⟨(ad292.add ((x4_1).toNat * 4)).block, (ad292.add ((x4_1).toNat * 4)).off + 2, none⟩ = some (.int .i64 ((rd_T80 l0 x4_1).f2)) ∧ w'.cell? ⟨(ad292.add ((x4_1).toNat * 4)).block, (ad292.add ((x4_1).toNat * 4)).off + 3, none⟩ = some (.bool ((rd_T80 l0 x4_1).f3))) (ds := []) (bA 11 0) (by kernel_rfl) rfl rfl (andc4 BK290.out ⟨(swB HB.out hw292_0), (swB HB.out hw292_1), (swB HB.out hw292_2), (swB HB.out hw292_3)⟩) (fun hHeld => ?_); refine with_tabW spec_l07Best.tab5 spec_l07Best.bits5 (fun HT_ HW_ => ?_)
  generalize wr.drew = w17 at BK285 BK290 HB hx292_0 hx292_1 hx292_2 hx292_3 hHeld ⊢
  refine pu_ 0 12 (bA 11 1) HT_ ?_
  refine tk_ 1 13 (bA 11 3) HT_ HW_ hHeld ?_
  refine pu_ 2 14 (bA 11 7) HT_ ?_
  refine pu_ 3 15 (bA 11 15) HT_ ?_
  refine pu_ 4 16 (bA 11 31) HT_ ?_
  refine pu_ 5 17 (bA 11 63) HT_ ?_
  refine pu_ 6 18 (bA 11 127) HT_ ?_
  refine tk_ 7 19 (bA 11 255) HT_ HW_ hHeld ?_
  refine tk_ 8 20 (bA 11 511) HT_ HW_ hHeld ?_
  refine one_ (i := 9) (N := some 21) (bA 11 1023) rfl rfl (one_of HT_.out (by kernel_rfl)) (by decide) (fun K hK => ?_)
  refine goes_ Tryz.func50 (by kernel_rfl) rfl #[.agg #[.int .i64 ((rd_T80 l0 x4_1).f0), .int .i64 ((rd_T80 l0 x4_1).f1), .int .i64 ((rd_T80 l0 x4_1).f2), .bool ((rd_T80 l0 x4_1).f3)], .agg #[.int .i64 x291000_1, .int .i64 x291001_1, .int .i64 x291002_1, .bool x291003_1]] (by rfl) rfl rfl (by (try simp only [List.map_toArray, List.map_cons, List.map_nil]); rfl) ?_
  with_reducible refine (spec_l07Better.calls ((rd_T80 l0 x4_1).f0) ((rd_T80 l0 x4_1).f1) ((rd_T80 l0 x4_1).f2) ((rd_T80 l0 x4_1).f3) x291000_1 x291001_1 x291002_1 x291003_1 true _ A15.out).mono ?_
  rintro e w18 ⟨rfl, hb⟩
  refine ⟨_, rfl, ?_⟩
  replace BK285 := aK BK285 hb
  replace BK290 := aK BK290 hb
  replace HB := aB HB hb
  (try clear hb)
  refine hK.out _ _ (andc4 BK290.out ⟨(swB HB.out hw292_0), (swB HB.out hw292_1), (swB HB.out hw292_2), (swB HB.out hw292_3)⟩) (fun hHeld => ?_)
  clear hK K
  refine norm_ (a' := ?_) ?_ ?_
  rotate_left
  ·show Act.put _ (some 21) _ = _
   simp only [Act.put, sb0, sb1, sb2, i64_w, i32_w]
   rfl
  refine pu_ 10 22 (bA 11 2047) HT_ ?_
  refine done_ (done_of HT_.out (by kernel_rfl)) ?_
  have p294 : 0 ≤ (x4_1 : Int) := oD ‹_›
  have q294 : x4_1 < (l0.length : Int) := oD ‹_›
  obtain ⟨ad294, e294, hx294_0, hx294_1, hx294_2, hx294_3⟩ := at_T80 HR0.out x4_1 p294 q294
  obtain rfl : ad292 = ad294 := (by injection e294)
  replace hx294_0 := swB HB.out hx294_0
  replace hx294_1 := swB HB.out hx294_1
  replace hx294_2 := swB HB.out hx294_2
  replace hx294_3 := swB HB.out hx294_3
  replace p294 := eq_true p294
  replace q294 := eq_true q294
  have hnb19 := NB290_285.out
  have hnc19 := NB285_290.out
  obtain ⟨hcz20_0, hcz20_1, hcz20_2, hcz20_3⟩ := swc4 BK290.out
  obtain ⟨hfz20_0, hfz20_1, hfz20_2, hfz20_3⟩ := swf4 BK290.out
  try go_wp2
  go_roundg k1
  case measure => have := HK1.out; omega
  case rel => exact ⟨(wrap64 (x4_1 + 1)), ((rd_T80 l0 x4_1).f0), ((rd_T80 l0 x4_1).f1), ((rd_T80 l0 x4_1).f2), ((rd_T80 l0 x4_1).f3), (by rfl), H', ⟨by have := HK1.out; omega⟩, ⟨by refine blk_far ?_ NB285_290.out _; refine blk_far ?_ NB285_290.out _; refine blk_far ?_ NB285_290.out _; refine blk_far ?_ NB285_290.out _; exact BK285.out⟩, ⟨by refine blk_put (cs := #[.int .i64 ((rd_T80 l0 x4_1).f0), .int .i64 ((rd_T80 l0 x4_1).f1), .int .i64 ((rd_T80 l0 x4_1).f2), .bool x291003_1]) ?_ 3 _ rfl; refine blk_put (cs := #[.int .i64 ((rd_T80 l0 x4_1).f0), .int .i64 ((rd_T80 l0 x4_1).f1), .int .i64 x291002_1, .bool x291003_1]) ?_ 2 _ rfl; refine blk_put (cs := #[.int .i64 ((rd_T80 l0 x4_1).f0), .int .i64 x291001_1, .int .i64 x291002_1, .bool x291003_1]) ?_ 1 _ rfl; refine blk_put (cs := #[.int .i64 x291000_1, .int .i64 x291001_1, .int .i64 x291002_1, .bool x291003_1]) ?_ 0 _ rfl; exact BK290.out⟩, ⟨by repeat ((with_reducible first | exact HB.out | refine below_set ?_ GE290.out))⟩⟩
end Go.Proofs.YtgibacfgjmdjdaaGreat.PFnExactIsStable
end
section
namespace Go.Proofs.YtgibacfgjmdjdaaGreat.PFnExactIsStable
open Go.RowKit Go.Proofs.YtgibacfgjmdjdaaGreatW.PrintWords Go.Proofs.YtgibacfgjmdjdaaGreatW.PrintLast Go.Proofs.YtgibacfgjmdjdaaGreatW.PrintMore
attribute [local go_sem] max2_int min2_int max_two min_two max_three min_three max_four min_four   -- for this text's walks alone
set_option linter.unusedVariables false
set_option maxHeartbeats 8000000
set_option maxRecDepth 100000
set_option linter.unusedSimpArgs false
attribute [local go_sem high] eqA80
def spec_l07Stable.l0 : Nat → List Int → List Bool → List (S80) → Int → List ByteArray → List (S92) → List Int → List Int → List (S95) → List (S97) → Option (Bool)
 | 0, _, _, _, _, _, _, _, _, _, _ => none
 | k + 1, x1, x2, x3, x9, x296000, x296001, x296002, x296003, x296004, x296005 => if x9 < (x3.length : Int) then ((spec_l07Candidates.f k x296000 x296001 x296002 x296003 x296004 x296005 x9 x1 x2 x3).bind fun t296 => ((spec_l07Best.f k t296).bind fun bt299 => (if 0 ≤ x9 then (if (!(bt299.1 == ((rd_T80 x3 x9).f0)) || (!(bt299.2.1 == ((rd_T80 x3 x9).f1)) || (!(bt299.2.2.1 == ((rd_T80 x3 x9).f2)) || (!(bt299.2.2.2 == ((rd_T80 x3 x9).f3)))))) = true then (some false) else (spec_l07Stable.l0 k x1 x2 x3 (wrap64 (x9 + 1)) x296000 x296001 x296002 x296003 x296004 x296005)) else (none)))) else (some true)
def spec_l07Stable.f (k : Nat) (l0_0 : List ByteArray) (l0_1 : List (S92)) (l0_2 : List Int) (l0_3 : List Int) (l0_4 : List (S95)) (l0_5 : List (S97)) (l1 : List Int) (l2 : List Bool) (l3 : List (S80)) : Option (Bool) := spec_l07Stable.l0 k l1 l2 l3 0 l0_0 l0_1 l0_2 l0_3 l0_4 l0_5
def spec_l07Stable.T4 : Bool × List (List Nat × List Nat) := (true, [([], []), ([], []), ([], []), ([], []), ([], []), ([0, 1, 2, 3, 4], [0, 1, 2, 3, 4]), ([5, 5], [5]), ([], []), ([], []), ([7, 8], [7, 8]), ([9], [9]), ([6, 10], [6, 10])])
def spec_l07Stable.B4 : List Nat := [0, 0, 0, 0, 0, 31, 63, 0, 0, 384, 896, 2047]
theorem spec_l07Stable.tab4 : rtab .any (opsOf Tryz.f29 4) = spec_l07Stable.T4 := by kernel_rfl
theorem spec_l07Stable.bits4 : waitsOk spec_l07Stable.T4.2 spec_l07Stable.B4 = true := by kernel_rfl
theorem spec_l07Stable.calls (k A0_0 c0_0 l0_0 A0_1 c0_1 l0_1 A0_2 c0_2 l0_2 A0_3 c0_3 l0_3 A0_4 c0_4 l0_4 A0_5 c0_5 l0_5 A1 c1 l1 A2 c2 l2 A3 c3 l3 r w) (hr0_0 : Kd.C Kd.string w A0_0 l0_0.length l0_0) (hc0_0 : l0_0.length ≤ c0_0) (hr0_1 : Kd.C k92 w A0_1 l0_1.length l0_1) (hc0_1 : l0_1.length ≤ c0_1) (hr0_2 : Kd.C (Kd.int .i64) w A0_2 l0_2.length l0_2) (hc0_2 : l0_2.length ≤ c0_2) (hr0_3 : Kd.C (Kd.int .i64) w A0_3 l0_3.length l0_3) (hc0_3 : l0_3.length ≤ c0_3) (hr0_4 : Kd.C k95 w A0_4 l0_4.length l0_4) (hc0_4 : l0_4.length ≤ c0_4) (hr0_5 : Kd.C k97 w A0_5 l0_5.length l0_5) (hc0_5 : l0_5.length ≤ c0_5) (hr1 : Kd.C (Kd.int .i64) w A1 l1.length l1) (hc1 : l1.length ≤ c1) (hr2 : Kd.C Kd.bool w A2 l2.length l2) (hc2 : l2.length ≤ c2) (hr3 : Kd.C k80 w A3 l3.length l3) (hc3 : l3.length ≤ c3) (h : spec_l07Stable.f k l0_0 l0_1 l0_2 l0_3 l0_4 l0_5 l1 l2 l3 = some r) :
  Calls Tryz.prog 29 #[.agg #[.slice A0_0 l0_0.length c0_0, .slice A0_1 l0_1.length c0_1, .slice A0_2 l0_2.length c0_2, .slice A0_3 l0_3.length c0_3, .slice A0_4 l0_4.length c0_4, .slice A0_5 l0_5.length c0_5], .slice A1 l1.length c1, .slice A2 l2.length c2, .slice A3 l3.length c3] w fun e w' => e = .returned (.bool r) ∧ Below w.heap.size w w' := by
 have hu38 := Tryz.underlying38
 have hu80 := Tryz.underlying58
 obtain ⟨HR0_0, HC0_0, HR0_1, HC0_1, HR0_2, HC0_2, HR0_3, HC0_3, HR0_4, HC0_4, HR0_5, HC0_5⟩ := as12 hr0_0 hc0_0 hr0_1 hc0_1 hr0_2 hc0_2 hr0_3 hc0_3 hr0_4 hc0_4 hr0_5 hc0_5
 clear hr0_0 hc0_0 hr0_1 hc0_1 hr0_2 hc0_2 hr0_3 hc0_3 hr0_4 hc0_4 hr0_5 hc0_5
 have HR1 := aM hr1
 have HC1 := aM hc1
 clear hr1 hc1
 have HR2 := aM hr2
 have HC2 := aM hc2
 clear hr2 hc2
 have HR3 := aM hr3
 have HC3 := aM hc3
 clear hr3 hc3
 have HB := aM (Below.refl w.heap.size w)
 have H : (spec_l07Stable.l0 k l1 l2 l3 0 l0_0 l0_1 l0_2 l0_3 l0_4 l0_5) = some r := h
 clear h
 have H' := aM H
 clear H
 go_enter Tryz.func29, Tryz.ntmps29
 go_wp2_with (((with_reducible refine gate_dst (N := 4) rfl ?_); refine bxE HB ?_; intro gb295 hg w5 hb BK295 GW295 GE295 HB; clear hb hg))
 go_loopg [9] k (fun kq v9 w' => ∃ (x9_1 : Int), v9 = .int .i64 x9_1 ∧ Aside0 (spec_l07Stable.l0 kq l1 l2 l3 x9_1 l0_0 l0_1 l0_2 l0_3 l0_4 l0_5 = some r) ∧ Aside0 (kq ≤ k) ∧ Aside0 (w'.heap[gb295]? = some (.cells #[(.slice A0_0 l0_0.length c0_0), (.slice A0_1 l0_1.length c0_1), (.slice A0_2 l0_2.length c0_2), (.slice A0_3 l0_3.length c0_3), (.slice A0_4 l0_4.length c0_4), (.slice A0_5 l0_5.length c0_5)] 38 (0, 0))) ∧ Aside0 (Below w.heap.size w w'))
 case atStart => exact ⟨(0), (by rfl), H', ⟨Nat.le_refl _⟩, ⟨by exact BK295.out⟩, ⟨by repeat ((with_reducible exact HB.out))⟩⟩
 clear H'
 obtain ⟨x9_1, rfl, HA, HK1, BK295, HB⟩ := hrel
 cases gk with
 | zero => exact absurd HA.out (by simp [spec_l07Stable.l0])
 | succ k1 =>
  obtain ⟨H⟩ := HA
  simp only [spec_l07Stable.l0] at H
  by_cases c6 : x9_1 < (l3.length : Int)
  rotate_left
  ·rw [if_neg c6] at H
   have c6b0 := decide_eq_false c6
   clear c6
   obtain rfl := Option.some.inj H
   go_wp2
   go_ret
   exact ⟨by rfl, by repeat ((with_reducible exact HB.out))⟩
  rw [if_pos c6] at H
  have c6b0 := decide_eq_true c6
  clear c6
  obtain ⟨t296, A7, H⟩ := bA_ H
  obtain ⟨⟨t299, t300, t301, t302⟩, A8, H⟩ := bA_ H
  obtain ⟨c9b0, H⟩ := iD H
  by_cases c10 : (!(t299 == ((rd_T80 l3 x9_1).f0)) || (!(t300 == ((rd_T80 l3 x9_1).f1)) || (!(t301 == ((rd_T80 l3 x9_1).f2)) || (!(t302 == ((rd_T80 l3 x9_1).f3)))))) = true
  ·rw [if_pos c10] at H
   have c10b0 : (!(t299 == ((rd_T80 l3 x9_1).f0)) || (!(t300 == ((rd_T80 l3 x9_1).f1)) || (!(t301 == ((rd_T80 l3 x9_1).f2)) || (!(t302 == ((rd_T80 l3 x9_1).f3)))))) = true := c10
   clear c10
   obtain rfl := Option.some.inj H
   try go_wp2
   replace BK295 := aM (blk_drew BK295.out)
   replace HB := aM (below_drew1 HB.out)
   have p303 : 0 ≤ (x9_1 : Int) := oD ‹_›
   have q303 : x9_1 < (l3.length : Int) := oD ‹_›
   obtain ⟨ad303, e303, hx303_0, hx303_1, hx303_2, hx303_3⟩ := at_T80 HR3.out x9_1 p303 q303
   have hw303_3 := hx303_3
   have hw303_2 := hx303_2
   have hw303_1 := hx303_1
   have hw303_0 := hx303_0
   cases e303
   replace hx303_0 := swB HB.out hx303_0
   replace hx303_1 := swB HB.out hx303_1
   replace hx303_2 := swB HB.out hx303_2
   replace hx303_3 := swB HB.out hx303_3
   replace p303 := eq_true p303
   replace q303 := eq_true q303
   refine start_ (n := 12) (S := fun w' => w'.cell? ⟨gb295, 0, none⟩ = some (.slice A0_0 l0_0.length c0_0) ∧ w'.cell? ⟨gb295, 1, none⟩ = some (.slice A0_1 l0_1.length c0_1) ∧ w'.cell? ⟨gb295, 2, none⟩ = some (.slice A0_2 l0_2.length c0_2) ∧ w'.cell? ⟨gb295, 3, none⟩ = some (.slice A0_3 l0_3.length c0_3) ∧ w'.cell? ⟨gb295, 4, none⟩ = some (.slice A0_4 l0_4.length c0_4) ∧ w'.cell? ⟨gb295, 5, none⟩ = some (.slice A0_5 l0_5.length c0_5) ∧ w'.cell? (ad303.add ((x9_1).toNat * 4)) = some (.int .i64 ((rd_T80 l3 x9_1).f0)) ∧ w'.cell? ⟨(ad303.add ((x9_1).toNat * 4)).block, (ad303.add ((x9_1).toNat * 4)).off + 1, none⟩ = some (.int .i64 ((rd_T80 l3 x9_1).f1)) ∧ w'.cell? ⟨(ad303.add ((x9_1).toNat * 4)).block, (ad303.add ((x9_1).toNat * 4)).off + 2, none⟩ = some (.int .i64 ((rd_T80 l3 x9_1).f2)) ∧ w'.cell? ⟨(ad303.add ((x9_1).toNat * 4)).block, (ad303.add ((x9_1).toNat * 4)).off + 3, none⟩ = some (.bool ((rd_T80 l3 x9_1).f3))) (ds := []) (bA 12 0) (by kernel_rfl) rfl rfl (andc6 BK295.out ⟨(swB HB.out hw303_0), (swB HB.out hw303_1), (swB HB.out hw303_2), (swB HB.out hw303_3)⟩) (fun hHeld => ?_); refine with_tabW spec_l07Stable.tab4 spec_l07Stable.bits4 (fun HT_ HW_ => ?_)
   generalize wr.drew = w11 at BK295 HB hx303_0 hx303_1 hx303_2 hx303_3 hHeld ⊢
   refine pu_ 1 17 (bA 12 2) HT_ ?_
   refine pu_ 2 18 (bA 12 6) HT_ ?_
   refine pu_ 3 19 (bA 12 14) HT_ ?_
   refine pu_ 4 20 (bA 12 30) HT_ ?_
   refine pu_ 7 23 (bA 12 158) HT_ ?_
   refine pu_ 8 24 (bA 12 414) HT_ ?_
   refine pu_ 9 25 (bA 12 926) HT_ ?_
   refine tk_ 0 16 (bA 12 927) HT_ HW_ hHeld ?_
   refine tk_ 10 26 (bA 12 1951) HT_ HW_ hHeld ?_
   refine one_ (i := 5) (N := some 21) (bA 12 1983) rfl rfl (one_of HT_.out (by kernel_rfl)) (by decide) (fun K hK => ?_)
   refine goes_ Tryz.func28 (by kernel_rfl) rfl #[.agg #[.slice A0_0 l0_0.length c0_0, .slice A0_1 l0_1.length c0_1, .slice A0_2 l0_2.length c0_2, .slice A0_3 l0_3.length c0_3, .slice A0_4 l0_4.length c0_4, .slice A0_5 l0_5.length c0_5], .int .i64 x9_1, .slice A1 l1.length c1, .slice A2 l2.length c2, .slice (some ad303) l3.length c3] (by rfl) rfl rfl (by (try simp only [List.map_toArray, List.map_cons, List.map_nil]); rfl) ?_
   with_reducible refine (spec_l07Candidates.calls k1 _ _ l0_0 _ _ l0_1 _ _ l0_2 _ _ l0_3 _ _ l0_4 _ _ l0_5 x9_1 _ _ l1 _ _ l2 _ _ l3 t296 _ ?side1 ?side2 ?side3 ?side4 ?side5 ?side6 ?side7 ?side8 ?side9 ?side10 ?side11 ?side12 ?side13 ?side14 ?side15 ?side16 ?side17 ?side18 A7.out).mono ?_
   (case side1 => exact (Kd.C_below HR0_0.out HB.out))
   (case side2 => exact HC0_0.out)
   (case side3 => exact (Kd.C_below HR0_1.out HB.out))
   (case side4 => exact HC0_1.out)
   (case side5 => exact (Kd.C_below HR0_2.out HB.out))
   (case side6 => exact HC0_2.out)
   (case side7 => exact (Kd.C_below HR0_3.out HB.out))
   (case side8 => exact HC0_3.out)
   (case side9 => exact (Kd.C_below HR0_4.out HB.out))
   (case side10 => exact HC0_4.out)
   (case side11 => exact (Kd.C_below HR0_5.out HB.out))
   (case side12 => exact HC0_5.out)
   (case side13 => exact (Kd.C_below HR1.out HB.out))
   (case side14 => exact HC1.out)
   (case side15 => exact (Kd.C_below HR2.out HB.out))
   (case side16 => exact HC2.out)
   (case side17 => exact (Kd.C_below HR3.out HB.out))
   (case side18 => exact HC3.out)
   rintro e w12 ⟨v297, rfl, ho0, hb⟩
   refine ⟨_, rfl, ?_⟩
   have HO298 := aM (Kd.R_lower ho0 (below_size HB.out))
   replace BK295 := aK BK295 hb
   replace HB := aB HB hb
   clear hb ho0
   obtain ⟨Ao13, co13, eo13⟩ := Kd.R_slice HO298.out
   (subst eo13)
   refine hK.out _ _ (andc6 BK295.out ⟨(swB HB.out hw303_0), (swB HB.out hw303_1), (swB HB.out hw303_2), (swB HB.out hw303_3)⟩) (fun hHeld => ?_)
   clear hK K
   refine norm_ (a' := ?_) ?_ ?_
   rotate_left
   ·show Act.put _ (some 21) _ = _
    simp only [Act.put, sb0, sb1, sb2, i64_w, i32_w]
    rfl
   refine one_ (i := 6) (N := some 22) (bA 12 2047) rfl rfl (one_of HT_.out (by kernel_rfl)) (by decide) (fun K hK => ?_)
   refine goes_ Tryz.func27 (by kernel_rfl) rfl #[.slice Ao13 t296.length co13] (by rfl) rfl rfl (by (try simp only [List.map_toArray, List.map_cons, List.map_nil]); rfl) ?_
   with_reducible refine (spec_l07Best.calls k1 _ _ t296 t299 t300 t301 t302 _ ?side1 ?side2 A8.out).mono ?_
   (case side1 => repeat (exact (Kd.R_reads' HO298.out).2.2))
   (case side2 => exact (Kd.R_reads' HO298.out).2.1)
   rintro e w14 ⟨rfl, hb⟩
   refine ⟨_, rfl, ?_⟩
   replace HO298 := aM (Kd.R_below HO298.out hb)
   replace BK295 := aK BK295 hb
   replace HB := aB HB hb
   (try clear hb)
   refine hK.out _ _ (andc6 BK295.out ⟨(swB HB.out hw303_0), (swB HB.out hw303_1), (swB HB.out hw303_2), (swB HB.out hw303_3)⟩) (fun hHeld => ?_)
   clear hK K
   refine norm_ (a' := ?_) ?_ ?_
   rotate_left
   ·show Act.put _ (some 22) _ = _
    simp only [Act.put, sb0, sb1, sb2, i64_w, i32_w]
    rfl
   refine pu_ 11 27 (bA 12 4095) HT_ ?_
   refine done_ (done_of HT_.out (by kernel_rfl)) ?_
   try go_wp2
   go_ret
   exact ⟨by rfl, by repeat ((with_reducible exact HB.out))⟩
  rw [if_neg c10] at H
  have c10b0 : (!(t299 == ((rd_T80 l3 x9_1).f0)) || (!(t300 == ((rd_T80 l3 x9_1).f1)) || (!(t301 == ((rd_T80 l3 x9_1).f2)) || (!(t302 == ((rd_T80 l3 x9_1).f3)))))) = false := by simpa using c10
  clear c10
  have H' := aM H
  clear H
  try go_wp2
  replace BK295 := aM (blk_drew BK295.out)
  replace HB := aM (below_drew1 HB.out)
  have p303 : 0 ≤ (x9_1 : Int) := oD ‹_›
  have q303 : x9_1 < (l3.length : Int) := oD ‹_›
  obtain ⟨ad303, e303, hx303_0, hx303_1, hx303_2, hx303_3⟩ := at_T80 HR3.out x9_1 p303 q303
  have hw303_3 := hx303_3
  have hw303_2 := hx303_2
  have hw303_1 := hx303_1
  have hw303_0 := hx303_0
  cases e303
  replace hx303_0 := swB HB.out hx303_0
  replace hx303_1 := swB HB.out hx303_1
  replace hx303_2 := swB HB.out hx303_2
  replace hx303_3 := swB HB.out hx303_3
  replace p303 := eq_true p303
  replace q303 := eq_true q303
  refine start_ (n := 12) (S := fun w' => w'.cell? ⟨gb295, 0, none⟩ = some (.slice A0_0 l0_0.length c0_0) ∧ w'.cell? ⟨gb295, 1, none⟩ = some (.slice A0_1 l0_1.length c0_1) ∧ w'.cell? ⟨gb295, 2, none⟩ = some (.slice A0_2 l0_2.length c0_2) ∧ w'.cell? ⟨gb295, 3, none⟩ = some (.slice A0_3 l0_3.length c0_3) ∧ w'.cell? ⟨gb295, 4, none⟩ = some (.slice A0_4 l0_4.length c0_4) ∧ w'.cell? ⟨gb295, 5, none⟩ = some (.slice A0_5 l0_5.length c0_5) ∧ w'.cell? (ad303.add ((x9_1).toNat * 4)) = some (.int .i64 ((rd_T80 l3 x9_1).f0)) ∧ w'.cell? ⟨(ad303.add ((x9_1).toNat * 4)).block, (ad303.add ((x9_1).toNat * 4)).off + 1, none⟩ = some (.int .i64 ((rd_T80 l3 x9_1).f1)) ∧ w'.cell? ⟨(ad303.add ((x9_1).toNat * 4)).block, (ad303.add ((x9_1).toNat * 4)).off + 2, none⟩ = some (.int .i64 ((rd_T80 l3 x9_1).f2)) ∧ w'.cell? ⟨(ad303.add ((x9_1).toNat * 4)).block, (ad303.add ((x9_1).toNat * 4)).off + 3, none⟩ = some (.bool ((rd_T80 l3 x9_1).f3))) (ds := []) (bA 12 0) (by kernel_rfl) rfl rfl (andc6 BK295.out ⟨(swB HB.out hw303_0), (swB HB.out hw303_1), (swB HB.out hw303_2), (swB HB.out hw303_3)⟩) (fun hHeld => ?_); refine with_tabW spec_l07Stable.tab4 spec_l07Stable.bits4 (fun HT_ HW_ => ?_)
  generalize wr.drew = w15 at BK295 HB hx303_0 hx303_1 hx303_2 hx303_3 hHeld ⊢
  refine pu_ 1 17 (bA 12 2) HT_ ?_
  refine pu_ 2 18 (bA 12 6) HT_ ?_
  refine pu_ 3 19 (bA 12 14) HT_ ?_
  refine pu_ 4 20 (bA 12 30) HT_ ?_
  refine pu_ 7 23 (bA 12 158) HT_ ?_
  refine pu_ 8 24 (bA 12 414) HT_ ?_
  refine pu_ 9 25 (bA 12 926) HT_ ?_
  refine tk_ 0 16 (bA 12 927) HT_ HW_ hHeld ?_
  refine tk_ 10 26 (bA 12 1951) HT_ HW_ hHeld ?_
  refine one_ (i := 5) (N := some 21) (bA 12 1983) rfl rfl (one_of HT_.out (by kernel_rfl)) (by decide) (fun K hK => ?_)
  refine goes_ Tryz.func28 (by kernel_rfl) rfl #[.agg #[.slice A0_0 l0_0.length c0_0, .slice A0_1 l0_1.length c0_1, .slice A0_2 l0_2.length c0_2, .slice A0_3 l0_3.length c0_3, .slice A0_4 l0_4.length c0_4, .slice A0_5 l0_5.length c0_5], .int .i64 x9_1, .slice A1 l1.length c1, .slice A2 l2.length c2, .slice (some ad303) l3.length c3] (by rfl) rfl rfl (by (try simp only [List.map_toArray, List.map_cons, List.map_nil]); rfl) ?_
  with_reducible refine (spec_l07Candidates.calls k1 _ _ l0_0 _ _ l0_1 _ _ l0_2 _ _ l0_3 _ _ l0_4 _ _ l0_5 x9_1 _ _ l1 _ _ l2 _ _ l3 t296 _ ?side1 ?side2 ?side3 ?side4 ?side5 ?side6 ?side7 ?side8 ?side9 ?side10 ?side11 ?side12 ?side13 ?side14 ?side15 ?side16 ?side17 ?side18 A7.out).mono ?_
  (case side1 => exact (Kd.C_below HR0_0.out HB.out))
  (case side2 => exact HC0_0.out)
  (case side3 => exact (Kd.C_below HR0_1.out HB.out))
  (case side4 => exact HC0_1.out)
  (case side5 => exact (Kd.C_below HR0_2.out HB.out))
  (case side6 => exact HC0_2.out)
  (case side7 => exact (Kd.C_below HR0_3.out HB.out))
  (case side8 => exact HC0_3.out)
  (case side9 => exact (Kd.C_below HR0_4.out HB.out))
  (case side10 => exact HC0_4.out)
  (case side11 => exact (Kd.C_below HR0_5.out HB.out))
  (case side12 => exact HC0_5.out)
  (case side13 => exact (Kd.C_below HR1.out HB.out))
  (case side14 => exact HC1.out)
  (case side15 => exact (Kd.C_below HR2.out HB.out))
  (case side16 => exact HC2.out)
  (case side17 => exact (Kd.C_below HR3.out HB.out))
  (case side18 => exact HC3.out)
  rintro e w16 ⟨v297, rfl, ho0, hb⟩
  refine ⟨_, rfl, ?_⟩
  have HO298 := aM (Kd.R_lower ho0 (below_size HB.out))
  replace BK295 := aK BK295 hb
  replace HB := aB HB hb
  clear hb ho0
  obtain ⟨Ao17, co17, eo17⟩ := Kd.R_slice HO298.out
  (subst eo17)
  refine hK.out _ _ (andc6 BK295.out ⟨(swB HB.out hw303_0), (swB HB.out hw303_1), (swB HB.out hw303_2), (swB HB.out hw303_3)⟩) (fun hHeld => ?_)
  clear hK K
  refine norm_ (a' := ?_) ?_ ?_
  rotate_left
  ·show Act.put _ (some 21) _ = _
   simp only [Act.put, sb0, sb1, sb2, i64_w, i32_w]
   rfl
  refine one_ (i := 6) (N := some 22) (bA 12 2047) rfl rfl (one_of HT_.out (by kernel_rfl)) (by decide) (fun K hK => ?_)
  refine goes_ Tryz.func27 (by kernel_rfl) rfl #[.slice Ao17 t296.length co17] (by rfl) rfl rfl (by (try simp only [List.map_toArray, List.map_cons, List.map_nil]); rfl) ?_
  with_reducible refine (spec_l07Best.calls k1 _ _ t296 t299 t300 t301 t302 _ ?side1 ?side2 A8.out).mono ?_
  (case side1 => repeat (exact (Kd.R_reads' HO298.out).2.2))
  (case side2 => exact (Kd.R_reads' HO298.out).2.1)
  rintro e w18 ⟨rfl, hb⟩
  refine ⟨_, rfl, ?_⟩
  replace HO298 := aM (Kd.R_below HO298.out hb)
  replace BK295 := aK BK295 hb
  replace HB := aB HB hb
  (try clear hb)
  refine hK.out _ _ (andc6 BK295.out ⟨(swB HB.out hw303_0), (swB HB.out hw303_1), (swB HB.out hw303_2), (swB HB.out hw303_3)⟩) (fun hHeld => ?_)
  clear hK K
  refine norm_ (a' := ?_) ?_ ?_
  rotate_left
  ·show Act.put _ (some 22) _ = _
   simp only [Act.put, sb0, sb1, sb2, i64_w, i32_w]
   rfl
  refine pu_ 11 27 (bA 12 4095) HT_ ?_
  refine done_ (done_of HT_.out (by kernel_rfl)) ?_
  try go_wp2
  go_roundg k1
  case measure => have := HK1.out; omega
  case rel => exact ⟨(wrap64 (x9_1 + 1)), (by rfl), H', ⟨by have := HK1.out; omega⟩, ⟨by exact BK295.out⟩, ⟨by repeat ((with_reducible exact HB.out))⟩⟩
def anyI (p : Nat → Bool) : Nat → Bool
 | 0 => false
 | n + 1 => anyI p n || p n
theorem anyI_none {p : Nat → Bool} : ∀ {n : Nat}, (∀ j, j < n → p j = false) → anyI p n = false
 | 0, _ => rfl
 | n + 1, h => by rw [anyI, anyI_none (fun j hj => h j (by omega)), h n (by omega)]; rfl
theorem anyI_some {p : Nat → Bool} : ∀ {n k : Nat}, k < n → p k = true → anyI p n = true
 | 0, _, h, _ => by omega
 | n + 1, k, h, hp => by
  rw [anyI]
  by_cases e : k = n
  ·subst e; rw [hp]; simp
  rw [anyI_some (show k < n by omega) hp]; simp
theorem anyI_list {α : Type} (q : α → Bool) (d : α) (p : Nat → Bool) : ∀ (l : List α), (∀ i, i < l.length → p i = q (l.getD i d)) → anyI p l.length = l.any q := by
 intro l h
 cases hq : l.any q with
 | true =>
  obtain ⟨x, hx, hqx⟩ := List.any_eq_true.1 hq
  obtain ⟨i, hi, rfl⟩ := List.mem_iff_getElem.1 hx
  exact anyI_some hi (by rw [h i hi]; simpa [List.getD, hi] using hqx)
 | false =>
  refine anyI_none (fun j hj => ?_)
  rw [h j hj]
  have := List.any_eq_false.1 hq (l.getD j d) (by simp [List.getD, hj])
  simpa using this
set_option maxHeartbeats 4000000 in
theorem idxInt (p : Nat → Bool) (V : Nat → Value) (g : Nat) (lb : Array Value) (eg : ∀ args w, (callFunc g args).run Tryz.prog w = .ok (.enter g args) w) (A : Option Addr) (n c : Nat) (w : World) (hn : n ≤ 9223372036854775807)
  (hc : 0 < n → ∃ ad, A = some ad ∧ ∀ i, i < n → w.cell? (ad.add i) = some (V i))
  (hp : ∀ i, i < n → ∀ W, Below w.heap.size w W → Calls Tryz.prog g (#[V i] ++ lb) W fun e W' => e = .returned (.bool (p i)) ∧ Below W.heap.size W W') :
  Calls Tryz.prog 98 #[.slice A n c, .func (.func g) #[] lb] w fun e w' => (∃ r : Int, e = .returned (.int .i64 r) ∧ decide (0 ≤ r) = anyI p n) ∧ Below w.heap.size w w' := by
 have HP := aM hp
 have HC := aM hc
 clear hp hc
 go_enter Tryz.func98, Tryz.ntmps98
 go_wp2
 go_loopg [5, 8] n (fun gg _ s8 wr => ∃ kk : Nat, kk ≤ n ∧ n - kk ≤ gg ∧ s8 = .int .i64 kk ∧ Aside0 (Below w.heap.size w wr) ∧ Aside0 (∀ j, j < kk → p j = false))
 case atStart => exact ⟨0, Nat.zero_le _, by omega, rfl, ⟨Below.refl _ _⟩, ⟨fun j hj => absurd hj (Nat.not_lt_zero _)⟩⟩
 obtain ⟨kk, hkk, hg, rfl, HB, HN⟩ := hrel
 by_cases hlt : kk < n
 rotate_left
 ·have hltz : ¬ (kk : Int) < (n : Int) := by omega
  have : kk = n := by omega
  subst this
  go_wp2
  go_ret
  refine ⟨⟨-1, rfl, ?_⟩, HB.out⟩
  rw [anyI_none HN.out]
  rfl
 have hltz : (kk : Int) < (n : Int) := by omega
 obtain ⟨ad, ea, hcell0⟩ := HC.out (by omega)
 have hcell := (HB.out.cell (World.block_lt_of_cell? w _ (hcell0 kk hlt))).trans (hcell0 kk hlt)
 clear hcell0
 cases ea
 have hcall := HP.out kk hlt _ HB.out
 cases hq : p kk with
 | true =>
  rw [hq] at hcall
  have HQ := aM hq
  clear hq
  go_wp2_with (go_at_fn g; refine hcall.mono ?_; rintro e w' ⟨rfl, hb⟩)
  go_ret
  refine ⟨⟨kk, rfl, ?_⟩, HB.out.trans (hb.mono HB.out.size)⟩
  rw [anyI_some hlt HQ.out, decide_eq_true (by omega)]
 | false =>
  rw [hq] at hcall
  have HQ := aM hq
  clear hq
  go_wp2_with (go_at_fn g; refine hcall.mono ?_; rintro e w' ⟨rfl, hb⟩)
  go_roundg (n - (kk + 1))
  case measure => omega
  refine ⟨kk + 1, by omega, by omega, by go_num, ⟨HB.out.trans (hb.mono HB.out.size)⟩, ⟨fun j hj => ?_⟩⟩
  by_cases e : j = kk
  ·subst e
   exact HQ.out
  exact HN.out j (by omega)
set_option maxHeartbeats 4000000 in
theorem anyInt (p : Nat → Bool) (V : Nat → Value) (g : Nat) (lb : Array Value) (eg : ∀ args w, (callFunc g args).run Tryz.prog w = .ok (.enter g args) w) (A : Option Addr) (n c : Nat) (w : World) (hn : n ≤ 9223372036854775807)
  (hc : 0 < n → ∃ ad, A = some ad ∧ ∀ i, i < n → w.cell? (ad.add i) = some (V i))
  (hp : ∀ i, i < n → ∀ W, Below w.heap.size w W → Calls Tryz.prog g (#[V i] ++ lb) W fun e W' => e = .returned (.bool (p i)) ∧ Below W.heap.size W W') :
  Calls Tryz.prog 82 #[.slice A n c, .func (.func g) #[] lb] w fun e w' => e = .returned (.bool (anyI p n)) ∧ Below w.heap.size w w' := by
 have hcall := idxInt p V g lb eg A n c w hn hc hp
 clear hp hc
 go_enter Tryz.func82, Tryz.ntmps82
 go_wp2_with (go_at_call 98; refine hcall.mono ?_; rintro e w' ⟨⟨r, rfl, hr⟩, hb⟩)
 go_ret
 exact ⟨by (rw [← hr]; rfl), hb⟩
theorem anyIntL (q : Int → Bool) (g : Nat) (lb : Array Value) (eg : ∀ args w, (callFunc g args).run Tryz.prog w = .ok (.enter g args) w) (A : Option Addr) (l : List Int) (c : Nat) (w : World) (hr : Kd.C (Kd.int .i64) w A l.length l)
  (hp : ∀ x W, Below w.heap.size w W → Calls Tryz.prog g (#[.int .i64 x] ++ lb) W fun e W' => e = .returned (.bool (q x)) ∧ Below W.heap.size W W') :
  Calls Tryz.prog 82 #[.slice A l.length c, .func (.func g) #[] lb] w fun e w' => e = .returned (.bool (l.any q)) ∧ Below w.heap.size w w' := by
 have h := anyInt (fun i => q (l.getD i 0)) (fun i => .int .i64 (l.getD i 0)) g lb eg A l.length c w hr.2.1
  (fun hn => by
   obtain ⟨ad, ea, _⟩ := hr.2.2 hn
   refine ⟨ad, ea, fun i hi => ?_⟩
   obtain ⟨ad', ea', hx⟩ := Kd.at_int hr (i : Int) (by omega) (by omega)
   cases ea
   cases ea'
   exact hx)
  (fun i hi W hb => hp _ W hb)
 rwa [anyI_list q 0 _ l (fun i _ => rfl)] at h
end Go.Proofs.YtgibacfgjmdjdaaGreat.PFnExactIsStable
end
section
namespace Go.Proofs.YtgibacfgjmdjdaaGreat.PFnExactIsStable
open Go.RowKit Go.Proofs.YtgibacfgjmdjdaaGreatW.PrintWords Go.Proofs.YtgibacfgjmdjdaaGreatW.PrintLast Go.Proofs.YtgibacfgjmdjdaaGreatW.PrintMore
attribute [local go_sem] max2_int min2_int max_two min_two max_three min_three max_four min_four   -- for this text's walks alone
set_option linter.unusedVariables false
set_option maxHeartbeats 8000000
set_option maxRecDepth 100000
set_option linter.unusedSimpArgs false
attribute [local go_sem high] eqA80
theorem fn106 (x : Int) (W : World) : Calls Tryz.prog 83 #[.int .i64 x] W fun e W' => e = .returned (.bool (!(decide (0 ≤ x) && decide (x ≤ 2)))) ∧ Below W.heap.size W W' := by
 have hin : impl_within.f x 0 2 = some (decide (0 ≤ x) && decide (x ≤ 2)) := by
  unfold impl_within.f
  by_cases h : x ≥ 0
  ·rw [if_pos h, decide_eq_true h, Bool.true_and]
  rw [if_neg h, decide_eq_false h, Bool.false_and]
 have hcall := fun V => impl_within.calls x 0 2 _ V hin
 generalize (decide (0 ≤ x) && decide (x ≤ 2)) = b at hcall ⊢
 go_enter Tryz.func83, Tryz.ntmps83
 go_wp2_with (go_at_call 35; refine (hcall _).mono ?_; rintro e w' ⟨rfl, hd⟩)
 go_ret
 exact ⟨rfl, hd.below⟩
def aroundB (ext links : Nat) (env : List Int) (down : Nat) : Bool := decide (env.length = ext) && (decide (down = links) && !(env.any fun x => !(decide (0 ≤ x) && decide (x ≤ 2))))
def impl_isAround.f (l0_0 : List ByteArray) (l0_1 : List S92) (l0_2 : List Int) (l0_3 : List Int) (l0_4 : List S95) (l0_5 : List S97) (l1 : List Int) (l2 : List Bool) : Option Bool := some (aroundB l0_3.length l0_1.length l1 l2.length)
set_option maxHeartbeats 4000000 in
set_option maxRecDepth 100000 in
theorem impl_isAround.calls (A0_0 c0_0 l0_0 A0_1 c0_1 l0_1 A0_2 c0_2 l0_2 A0_3 c0_3 l0_3 A0_4 c0_4 l0_4 A0_5 c0_5 l0_5 A1 c1 l1 A2 c2 l2 r w) (hr0_0 : Kd.C Kd.string w A0_0 l0_0.length l0_0) (hc0_0 : l0_0.length ≤ c0_0) (hr0_1 : Kd.C k92 w A0_1 l0_1.length l0_1) (hc0_1 : l0_1.length ≤ c0_1) (hr0_2 : Kd.C (Kd.int .i64) w A0_2 l0_2.length l0_2) (hc0_2 : l0_2.length ≤ c0_2) (hr0_3 : Kd.C (Kd.int .i64) w A0_3 l0_3.length l0_3) (hc0_3 : l0_3.length ≤ c0_3) (hr0_4 : Kd.C k95 w A0_4 l0_4.length l0_4) (hc0_4 : l0_4.length ≤ c0_4) (hr0_5 : Kd.C k97 w A0_5 l0_5.length l0_5) (hc0_5 : l0_5.length ≤ c0_5) (hr1 : Kd.C (Kd.int .i64) w A1 l1.length l1) (hc1 : l1.length ≤ c1) (hr2 : Kd.C Kd.bool w A2 l2.length l2) (hc2 : l2.length ≤ c2) (h : impl_isAround.f l0_0 l0_1 l0_2 l0_3 l0_4 l0_5 l1 l2 = some r) :
  Calls Tryz.prog 59 #[.agg #[.slice A0_0 l0_0.length c0_0, .slice A0_1 l0_1.length c0_1, .slice A0_2 l0_2.length c0_2, .slice A0_3 l0_3.length c0_3, .slice A0_4 l0_4.length c0_4, .slice A0_5 l0_5.length c0_5], .slice A1 l1.length c1, .slice A2 l2.length c2] w fun e w' => e = .returned (.bool r) ∧ Below w.heap.size w w' := by
 obtain rfl : aroundB l0_3.length l0_1.length l1 l2.length = r := Option.some.inj h
 clear h
 unfold aroundB
 have hu38 := Tryz.underlying38
 have HC : Aside0 (∀ V : World, Below w.heap.size w V → Calls Tryz.prog 82 #[.slice A1 l1.length c1, .func (.func 83) #[] #[]] V fun e w' => e = .returned (.bool (l1.any fun x => !(decide (0 ≤ x) && decide (x ≤ 2)))) ∧ Below V.heap.size V w') := ⟨fun V hV => anyIntL (fun x => !(decide (0 ≤ x) && decide (x ≤ 2))) 83 #[] (enters_of Tryz.func83 (by kernel_rfl) rfl) A1 l1 c1 V (Kd.C_below hr1 hV) (fun x W _ => fn106 x W)⟩
 clear hr1 hc1 hr2 hc2 hr0_0 hc0_0 hr0_1 hc0_1 hr0_2 hc0_2 hr0_3 hc0_3 hr0_4 hc0_4 hr0_5 hc0_5
 generalize (l1.any fun x => !(decide (0 ≤ x) && decide (x ≤ 2))) = b at HC ⊢
 have HB := aM (Below.refl w.heap.size w)
 by_cases hA : l1.length = l0_3.length
 rotate_left
 ·rw [decide_eq_false hA, Bool.false_and]
  have hA1 : ((l1.length : Int) == (l0_3.length : Int)) = false := beq_eq_false_iff_ne.2 (fun h => hA (Int.ofNat.inj h))
  have hA2 : ¬ (l1.length : Int) = (l0_3.length : Int) := fun h => hA (Int.ofNat.inj h)
  clear HC
  go_enter Tryz.func59, Tryz.ntmps59
  go_wp2_with (((with_reducible refine gate_dst (N := 3) rfl ?_); refine box_event rfl (N := 3) rfl (cs := #[.slice A0_0 l0_0.length c0_0, .slice A0_1 l0_1.length c0_1, .slice A0_2 l0_2.length c0_2, .slice A0_3 l0_3.length c0_3, .slice A0_4 l0_4.length c0_4, .slice A0_5 l0_5.length c0_5]) (t := 38) (by go_simp; done) ?_; intro gN hg_ wN hbox hbb; have GEN := aM (show w.heap.size ≤ gN by rw [hg_]; exact HB.out.size); replace HB := aM (HB.out.trans (hbb.mono HB.out.size)); clear hbb hg_; have BN := aM hbox; clear hbox; obtain ⟨cN0, cN1, cN2, cN3, cN4, cN5⟩ := box6 BN.out))
  go_ret
  exact ⟨rfl, HB.out⟩
 rw [decide_eq_true hA, Bool.true_and]
 rw [hA] at HC ⊢
 clear hA
 by_cases hB : l2.length = l0_1.length
 rotate_left
 ·rw [decide_eq_false hB, Bool.false_and]
  have hB1 : ((l2.length : Int) == (l0_1.length : Int)) = false := beq_eq_false_iff_ne.2 (fun h => hB (Int.ofNat.inj h))
  have hB2 : ¬ (l2.length : Int) = (l0_1.length : Int) := fun h => hB (Int.ofNat.inj h)
  clear HC
  go_enter Tryz.func59, Tryz.ntmps59
  go_wp2_with (((with_reducible refine gate_dst (N := 3) rfl ?_); refine box_event rfl (N := 3) rfl (cs := #[.slice A0_0 l0_0.length c0_0, .slice A0_1 l0_1.length c0_1, .slice A0_2 l0_2.length c0_2, .slice A0_3 l0_3.length c0_3, .slice A0_4 l0_4.length c0_4, .slice A0_5 l0_5.length c0_5]) (t := 38) (by go_simp; done) ?_; intro gN hg_ wN hbox hbb; have GEN := aM (show w.heap.size ≤ gN by rw [hg_]; exact HB.out.size); replace HB := aM (HB.out.trans (hbb.mono HB.out.size)); clear hbb hg_; have BN := aM hbox; clear hbox; obtain ⟨cN0, cN1, cN2, cN3, cN4, cN5⟩ := box6 BN.out))
  go_ret
  exact ⟨rfl, HB.out⟩
 rw [decide_eq_true hB, Bool.true_and]
 rw [hB]
 clear hB
 go_enter Tryz.func59, Tryz.ntmps59
 go_wp2_with (first | ((with_reducible refine gate_dst (N := 3) rfl ?_); refine box_event rfl (N := 3) rfl (cs := #[.slice A0_0 l0_0.length c0_0, .slice A0_1 l0_1.length c0_1, .slice A0_2 l0_2.length c0_2, .slice A0_3 l0_3.length c0_3, .slice A0_4 l0_4.length c0_4, .slice A0_5 l0_5.length c0_5]) (t := 38) (by go_simp; done) ?_; intro gN hg_ wN hbox hbb; have GEN := aM (show w.heap.size ≤ gN by rw [hg_]; exact HB.out.size); replace HB := aM (HB.out.trans (hbb.mono HB.out.size)); clear hbb hg_; have BN := aM hbox; clear hbox; obtain ⟨cN0, cN1, cN2, cN3, cN4, cN5⟩ := box6 BN.out) | (go_at_call 82; (with_reducible refine (HC.out _ HB.out).mono ?_); rintro e w5 ⟨rfl, hb⟩; clear cN0 cN1 cN2 cN3 cN4 cN5; replace HB := aB HB hb; replace BN := aK BN hb; clear hb; obtain ⟨cN0, cN1, cN2, cN3, cN4, cN5⟩ := box6 BN.out))
 go_ret
 exact ⟨rfl, HB.out⟩
def routesI (all : List S92) : List S80 → Nat → Option Bool
 | [], _ => some true
 | x :: r, i => if ((((((decide (x.f0 ≥ 0)) && (decide (linkI all (i : Int) x.f0 < 0))) || (decide (x.f0 < (-3)))) || (!(inB x.f1 0 1000))) || (!(inB x.f2 0 10000))) || ((x.f0 == (-3)) && (!((x.f0 == (-3)) && ((x.f1 == 0) && ((x.f2 == 0) && (x.f3 == false))))))) = true then some false else routesI all r (i + 1)
def impl_areRoutes.f (l0_0 : List ByteArray) (l0_1 : List S92) (l0_2 : List Int) (l0_3 : List Int) (l0_4 : List S95) (l0_5 : List S97) (l1 : List S80) : Option Bool := if l1.length = l0_0.length then routesI l0_1 l1 0 else some false
theorem impl_areRoutes.calls (A0_0 c0_0 l0_0 A0_1 c0_1 l0_1 A0_2 c0_2 l0_2 A0_3 c0_3 l0_3 A0_4 c0_4 l0_4 A0_5 c0_5 l0_5 A1 c1 l1 r w) (hr0_0 : Kd.C Kd.string w A0_0 l0_0.length l0_0) (hc0_0 : l0_0.length ≤ c0_0) (hr0_1 : Kd.C k92 w A0_1 l0_1.length l0_1) (hc0_1 : l0_1.length ≤ c0_1) (hr0_2 : Kd.C (Kd.int .i64) w A0_2 l0_2.length l0_2) (hc0_2 : l0_2.length ≤ c0_2) (hr0_3 : Kd.C (Kd.int .i64) w A0_3 l0_3.length l0_3) (hc0_3 : l0_3.length ≤ c0_3) (hr0_4 : Kd.C k95 w A0_4 l0_4.length l0_4) (hc0_4 : l0_4.length ≤ c0_4) (hr0_5 : Kd.C k97 w A0_5 l0_5.length l0_5) (hc0_5 : l0_5.length ≤ c0_5) (hr1 : Kd.C k80 w A1 l1.length l1) (hc1 : l1.length ≤ c1) (h : impl_areRoutes.f l0_0 l0_1 l0_2 l0_3 l0_4 l0_5 l1 = some r) :
  Calls Tryz.prog 60 #[.agg #[.slice A0_0 l0_0.length c0_0, .slice A0_1 l0_1.length c0_1, .slice A0_2 l0_2.length c0_2, .slice A0_3 l0_3.length c0_3, .slice A0_4 l0_4.length c0_4, .slice A0_5 l0_5.length c0_5], .slice A1 l1.length c1] w fun e w' => e = .returned (.bool r) ∧ Below w.heap.size w w' := by
 have hu38 := Tryz.underlying38
 have hu80 := Tryz.underlying58
 have HN : Aside0 (Kd.C Kd.string w A0_0 l0_0.length l0_0 ∧ l0_0.length ≤ c0_0 ∧ Kd.C k92 w A0_1 l0_1.length l0_1 ∧ l0_1.length ≤ c0_1 ∧ Kd.C (Kd.int .i64) w A0_2 l0_2.length l0_2 ∧ l0_2.length ≤ c0_2 ∧ Kd.C (Kd.int .i64) w A0_3 l0_3.length l0_3 ∧ l0_3.length ≤ c0_3 ∧ Kd.C k95 w A0_4 l0_4.length l0_4 ∧ l0_4.length ≤ c0_4 ∧ Kd.C k97 w A0_5 l0_5.length l0_5 ∧ l0_5.length ≤ c0_5 ∧ Kd.C k80 w A1 l1.length l1) := ⟨hr0_0, hc0_0, hr0_1, hc0_1, hr0_2, hc0_2, hr0_3, hc0_3, hr0_4, hc0_4, hr0_5, hc0_5, hr1⟩
 have HM : Aside0 (l0_0.length ≤ 9223372036854775807 ∧ l1.length ≤ 9223372036854775807) := ⟨Kd.C_max hr0_0, Kd.C_max hr1⟩
 clear hr0_0 hc0_0 hr0_1 hc0_1 hr0_2 hc0_2 hr0_3 hc0_3 hr0_4 hc0_4 hr0_5 hc0_5 hr1
 have HB := aM (Below.refl w.heap.size w)
 unfold impl_areRoutes.f at h
 by_cases hlen : l1.length = l0_0.length
 rotate_left
 ·rw [if_neg hlen] at h
  obtain rfl := Option.some.inj h
  clear h
  have hlz : ((l1.length : Int) != (l0_0.length : Int)) = true := by simp; omega
  go_enter Tryz.func60, Tryz.ntmps60
  go_wp2_with (((with_reducible refine gate_dst (N := 2) rfl ?_); refine box_event rfl (N := 2) rfl (cs := #[.slice A0_0 l0_0.length c0_0, .slice A0_1 l0_1.length c0_1, .slice A0_2 l0_2.length c0_2, .slice A0_3 l0_3.length c0_3, .slice A0_4 l0_4.length c0_4, .slice A0_5 l0_5.length c0_5]) (t := 38) (by go_simp; done) ?_; intro gn hgn wn hbox hbb; have BN := aM (And.intro hbox (show w.heap.size ≤ gn by rw [hgn]; exact HB.out.size)); replace HB := aM (HB.out.trans (hbb.mono HB.out.size)); clear hbb hbox hgn; obtain ⟨hn0, hn1, hn2, hn3, hn4, hn5⟩ := box6 BN.out.1))
  go_ret
  exact ⟨rfl, HB.out⟩
 rw [if_pos hlen] at h
 have hlz : ((l1.length : Int) != (l0_0.length : Int)) = false := by simp [hlen]
 have HL : Aside0 (routesI l0_1 (l1.drop 0) 0 = some r) := ⟨by rw [List.drop_zero]; exact h⟩
 clear h
 go_enter Tryz.func60, Tryz.ntmps60
 go_wp2_with (((with_reducible refine gate_dst (N := 2) rfl ?_); refine box_event rfl (N := 2) rfl (cs := #[.slice A0_0 l0_0.length c0_0, .slice A0_1 l0_1.length c0_1, .slice A0_2 l0_2.length c0_2, .slice A0_3 l0_3.length c0_3, .slice A0_4 l0_4.length c0_4, .slice A0_5 l0_5.length c0_5]) (t := 38) (by go_simp; done) ?_; intro gn hgn wn hbox hbb; have BN := aM (And.intro hbox (show w.heap.size ≤ gn by rw [hgn]; exact HB.out.size)); replace HB := aM (HB.out.trans (hbb.mono HB.out.size)); clear hbb hbox hgn; obtain ⟨hn0, hn1, hn2, hn3, hn4, hn5⟩ := box6 BN.out.1))
 clear hn0 hn1 hn2 hn3 hn4 hn5
 go_loopg [15] l1.length (fun gg s9 wr => ∃ kk : Nat, kk ≤ l1.length ∧ l1.length - kk ≤ gg ∧ s9 = .int .i64 kk ∧ Aside0 (Below w.heap.size w wr) ∧ Aside0 (wr.heap[gn]? = some (.cells #[.slice A0_0 l0_0.length c0_0, .slice A0_1 l0_1.length c0_1, .slice A0_2 l0_2.length c0_2, .slice A0_3 l0_3.length c0_3, .slice A0_4 l0_4.length c0_4, .slice A0_5 l0_5.length c0_5] 38 (0, 0)) ∧ w.heap.size ≤ gn) ∧ Aside0 (routesI l0_1 (l1.drop kk) kk = some r))
 case atStart => exact ⟨0, Nat.zero_le _, by omega, rfl, HB, BN, HL⟩
 clear HL HB BN
 obtain ⟨kk, hkk, hg, rfl, HB, BN, HL⟩ := hrel
 have HM0 := HM.out.1
 have HM1 := HM.out.2
 have hN := HL.out
 clear HL
 by_cases hlt : kk < l1.length
 rotate_left
 ·have hltz : ¬ (kk : Int) < (l1.length : Int) := by omega
  obtain rfl : kk = l1.length := by omega
  rw [List.drop_length, routesI] at hN
  obtain rfl := Option.some.inj hN
  clear hN
  obtain ⟨hn0, hn1, hn2, hn3, hn4, hn5⟩ := box6 BN.out.1
  go_wp2
  go_ret
  exact ⟨rfl, HB.out⟩
 have hltz : (kk : Int) < (l1.length : Int) := by omega
 have hkc0 : (0 : Int) ≤ (kk : Int) := Int.natCast_nonneg _
 obtain ⟨ad, ea, hx0, hx1, hx2, hx3⟩ := at_T80 HN.out.2.2.2.2.2.2.2.2.2.2.2.2 (kk : Int) (by omega) (by omega)
 cases ea
 rw [Int.toNat_natCast] at hx0 hx1 hx2 hx3
 replace hx0 := swB HB.out hx0
 replace hx1 := swB HB.out hx1
 replace hx2 := swB HB.out hx2
 replace hx3 := swB HB.out hx3
 have hrd : rd_T80 l1 (kk : Int) = l1[kk] := by unfold rd_T80; simp [List.getD, hlt]
 rw [hrd] at hx0 hx1 hx2 hx3
 rw [List.drop_eq_getElem_cons hlt, routesI] at hN
 have ew : IntKind.i64.wrap ((kk : Int) + 1) = ((kk + 1 : Nat) : Int) := IntWalk.i64_in _ (by omega)
 clear hrd
 generalize l1[kk] = x at hN hx0 hx1 hx2 hx3
 obtain ⟨x0, x1, x2, x3⟩ := x
 dsimp only at hN hx0 hx1 hx2 hx3
 have HBb : Aside0 (∀ V : World, Calls Tryz.prog 35 #[.int .i64 x1, .int .i64 0, .int .i64 1000] V fun e W' => e = .returned (.bool (inB x1 0 1000)) ∧ Drawn0 V W') := ⟨fun V => impl_within.calls x1 0 1000 _ V (within_is x1 0 1000)⟩
 have HC : Aside0 (∀ V : World, Calls Tryz.prog 35 #[.int .i64 x2, .int .i64 0, .int .i64 10000] V fun e W' => e = .returned (.bool (inB x2 0 10000)) ∧ Drawn0 V W') := ⟨fun V => impl_within.calls x2 0 10000 _ V (within_is x2 0 10000)⟩
 generalize inB x1 0 1000 = rb at hN HBb
 generalize inB x2 0 10000 = rc at hN HC
 have HCT : Aside0 (∀ V : World, Below w.heap.size w V → Calls Tryz.prog 75 #[.agg #[.slice A0_0 l0_0.length c0_0, .slice A0_1 l0_1.length c0_1, .slice A0_2 l0_2.length c0_2, .slice A0_3 l0_3.length c0_3, .slice A0_4 l0_4.length c0_4, .slice A0_5 l0_5.length c0_5], .int .i64 (kk : Int), .int .i64 x0] V fun e w' => e = .returned (.int .i64 (linkI l0_1 (kk : Int) x0)) ∧ Below V.heap.size V w') := ⟨fun V hV => impl_linkOf.calls A0_0 c0_0 l0_0 A0_1 c0_1 l0_1 A0_2 c0_2 l0_2 A0_3 c0_3 l0_3 A0_4 c0_4 l0_4 A0_5 c0_5 l0_5 (kk : Int) x0 _ V (Kd.C_below HN.out.1 hV) HN.out.2.1 (Kd.C_below HN.out.2.2.1 hV) HN.out.2.2.2.1 (Kd.C_below HN.out.2.2.2.2.1 hV) HN.out.2.2.2.2.2.1 (Kd.C_below HN.out.2.2.2.2.2.2.1 hV) HN.out.2.2.2.2.2.2.2.1 (Kd.C_below HN.out.2.2.2.2.2.2.2.2.1 hV) HN.out.2.2.2.2.2.2.2.2.2.1 (Kd.C_below HN.out.2.2.2.2.2.2.2.2.2.2.1 hV) HN.out.2.2.2.2.2.2.2.2.2.2.2.1 rfl⟩
 generalize linkI l0_1 (kk : Int) x0 = u at hN HCT
 have HF := aM (ifz hN).1
 have HT := aM (ifz hN).2
 clear hN
 go_upto_region 6 with (first | ((with_reducible refine gate_dst (N := 6) rfl ?_); refine box_event rfl (N := 6) rfl (cs := #[.int .i64 0, .int .i64 0, .int .i64 0, .bool false]) (t := 58) (by go_simp; done) ?_; intro g6 hg6 w6 hbox hbb; have HX := aM (And.intro hbox (And.intro (show w.heap.size ≤ g6 by rw [hg6]; exact HB.out.size) (show gn ≠ g6 by rw [hg6]; exact Nat.ne_of_lt (blk_lt BN.out.1)))); replace HB := aM (HB.out.trans (hbb.mono HB.out.size)); replace BN := aM (And.intro (blk_below BN.out.1 hbb) BN.out.2); clear hbb hbox hg6) | ((with_reducible refine gate_store (t := 58) (p := 6) rfl ?_); obtain ⟨hc0, hc1, hc2, hc3⟩ := swc4 HX.out.1; have hf0 := blk_frozen HX.out.1 0; have hf1 := blk_frozen HX.out.1 1; have hf2 := blk_frozen HX.out.1 2; have hf3 := blk_frozen HX.out.1 3; refine store_event (t := 58) (p := 6) (v := .tmp 19) (w1 := ((((w6.setCell ⟨g6, 0, none⟩ (.int .i64 x0)).setCell ⟨g6, 1, none⟩ (.int .i64 x1)).setCell ⟨g6, 2, none⟩ (.int .i64 x2)).setCell ⟨g6, 3, none⟩ (.bool x3))) ?hg ?ho ?hn ?hr ?_; (case ho => rfl); (case hg => rfl); (case hn => rfl); (case hr => (go_simp; done)); clear hc0 hf0 hc1 hf1 hc2 hf2 hc3 hf3; intro w7 hw_; obtain ⟨hbk, hkb, hkw⟩ := boxv4 (v0 := .int .i64 x0) (v1 := .int .i64 x1) (v2 := .int .i64 x2) (v3 := .bool x3) HX.out.1; rw [← hw_] at hbk hkb hkw; clear hw_; replace HB := aM (hkw _ HB.out HX.out.2.1); replace BN := aM (And.intro (blk_kept BN.out.1 hkb (fun h_ => HX.out.2.2 h_)) BN.out.2); replace HX := aM (And.intro hbk HX.out.2); clear hbk hkb hkw))
 clear hx0 hx1 hx2 hx3
 have HW : ∀ W, Below w7.heap.size w7 W → Below w.heap.size w W := fun W hW => HB.out.trans (hW.mono HB.out.size)
 have cN := fun (W : World) (hW : Below w7.heap.size w7 W) => blk_below BN.out.1 hW
 have cX := fun (W : World) (hW : Below w7.heap.size w7 W) => blk_below HX.out.1 hW
 refine seq_tail (R := []) [some 20, some 21, some 22, some 23, some 24, some 25, some 26, some 27, some 28, some 29, some 30, some 31, some 32, some 33, some 34, some 35, some 36, some 37, some 38, some 39, some 40, some 41, some 42, some 43, some 44, some 45, some 46, some 47, some 48, some 49, some 50, some 51, some 52, some 53, some 54, some 55, some 56, some 57] 59 38 [VP.eq (.pointer (some ⟨g6, 0, none⟩)), VP.eq (.int .i64 (x0)), VP.eq (.bool ((decide (x0 ≥ 0)))), VP.eq (.bool ((decide (x0 ≥ 0)))), VP.eq (cond (((decide (x0 ≥ 0)) == true)) (.agg #[.slice A0_0 l0_0.length c0_0, .slice A0_1 l0_1.length c0_1, .slice A0_2 l0_2.length c0_2, .slice A0_3 l0_3.length c0_3, .slice A0_4 l0_4.length c0_4, .slice A0_5 l0_5.length c0_5]) undef), VP.eq (cond (((decide (x0 ≥ 0)) == true)) (.int .i64 ((kk : Int))) undef), VP.eq (cond (((decide (x0 ≥ 0)) == true)) (.pointer (some ⟨g6, 0, none⟩)) undef), VP.eq (cond (((decide (x0 ≥ 0)) == true)) (.int .i64 (x0)) undef), VP.eq (cond (((decide (x0 ≥ 0)) == true)) (.int .i64 (u)) undef), VP.eq (cond (((decide (x0 ≥ 0)) == true)) (.bool ((decide (u < 0)))) undef), VP.eq (.bool (((decide (x0 ≥ 0)) && (decide (u < 0))))), VP.eq (.bool (((decide (x0 ≥ 0)) && (decide (u < 0))))), VP.eq (cond ((((decide (x0 ≥ 0)) && (decide (u < 0))) == false)) (.pointer (some ⟨g6, 0, none⟩)) undef), VP.eq (cond ((((decide (x0 ≥ 0)) && (decide (u < 0))) == false)) (.int .i64 (x0)) undef), VP.eq (cond ((((decide (x0 ≥ 0)) && (decide (u < 0))) == false)) (.bool ((decide (x0 < (-3))))) undef), VP.eq (.bool ((((decide (x0 ≥ 0)) && (decide (u < 0))) || (decide (x0 < (-3)))))), VP.eq (.bool ((((decide (x0 ≥ 0)) && (decide (u < 0))) || (decide (x0 < (-3)))))), VP.eq (cond (((((decide (x0 ≥ 0)) && (decide (u < 0))) || (decide (x0 < (-3)))) == false)) (.pointer (some ⟨g6, 1, none⟩)) undef), VP.eq (cond (((((decide (x0 ≥ 0)) && (decide (u < 0))) || (decide (x0 < (-3)))) == false)) (.int .i64 (x1)) undef), VP.eq (cond (((((decide (x0 ≥ 0)) && (decide (u < 0))) || (decide (x0 < (-3)))) == false)) (.bool (rb)) undef), VP.eq (cond (((((decide (x0 ≥ 0)) && (decide (u < 0))) || (decide (x0 < (-3)))) == false)) (.bool ((!rb))) undef), VP.eq (.bool (((((decide (x0 ≥ 0)) && (decide (u < 0))) || (decide (x0 < (-3)))) || (!rb)))), VP.eq (.bool (((((decide (x0 ≥ 0)) && (decide (u < 0))) || (decide (x0 < (-3)))) || (!rb)))), VP.eq (cond ((((((decide (x0 ≥ 0)) && (decide (u < 0))) || (decide (x0 < (-3)))) || (!rb)) == false)) (.pointer (some ⟨g6, 2, none⟩)) undef), VP.eq (cond ((((((decide (x0 ≥ 0)) && (decide (u < 0))) || (decide (x0 < (-3)))) || (!rb)) == false)) (.int .i64 (x2)) undef), VP.eq (cond ((((((decide (x0 ≥ 0)) && (decide (u < 0))) || (decide (x0 < (-3)))) || (!rb)) == false)) (.bool (rc)) undef), VP.eq (cond ((((((decide (x0 ≥ 0)) && (decide (u < 0))) || (decide (x0 < (-3)))) || (!rb)) == false)) (.bool ((!rc))) undef), VP.eq (.bool ((((((decide (x0 ≥ 0)) && (decide (u < 0))) || (decide (x0 < (-3)))) || (!rb)) || (!rc)))), VP.eq (.bool ((((((decide (x0 ≥ 0)) && (decide (u < 0))) || (decide (x0 < (-3)))) || (!rb)) || (!rc)))), VP.eq (cond (((((((decide (x0 ≥ 0)) && (decide (u < 0))) || (decide (x0 < (-3)))) || (!rb)) || (!rc)) == false)) (.pointer (some ⟨g6, 0, none⟩)) undef), VP.eq (cond (((((((decide (x0 ≥ 0)) && (decide (u < 0))) || (decide (x0 < (-3)))) || (!rb)) || (!rc)) == false)) (.int .i64 (x0)) undef), VP.eq (cond (((((((decide (x0 ≥ 0)) && (decide (u < 0))) || (decide (x0 < (-3)))) || (!rb)) || (!rc)) == false)) (.bool ((x0 == (-3)))) undef), VP.eq (cond (((((((decide (x0 ≥ 0)) && (decide (u < 0))) || (decide (x0 < (-3)))) || (!rb)) || (!rc)) == false)) (.bool ((x0 == (-3)))) undef), VP.eq (cond ((((((((decide (x0 ≥ 0)) && (decide (u < 0))) || (decide (x0 < (-3)))) || (!rb)) || (!rc)) == false) && ((x0 == (-3)) == true))) (.agg #[.int .i64 (x0), .int .i64 (x1), .int .i64 (x2), .bool (x3)]) undef), VP.eq (cond ((((((((decide (x0 ≥ 0)) && (decide (u < 0))) || (decide (x0 < (-3)))) || (!rb)) || (!rc)) == false) && ((x0 == (-3)) == true))) (.agg #[.int .i64 ((-3)), .int .i64 (0), .int .i64 (0), .bool (false)]) undef), VP.eq (cond ((((((((decide (x0 ≥ 0)) && (decide (u < 0))) || (decide (x0 < (-3)))) || (!rb)) || (!rc)) == false) && ((x0 == (-3)) == true))) (.bool ((!((x0 == ((-3))) && ((x1 == 0) && ((x2 == 0) && (x3 == false))))))) undef), VP.eq (cond (((((((decide (x0 ≥ 0)) && (decide (u < 0))) || (decide (x0 < (-3)))) || (!rb)) || (!rc)) == false)) (.bool (((x0 == (-3)) && (!((x0 == ((-3))) && ((x1 == 0) && ((x2 == 0) && (x3 == false)))))))) undef), VP.eq (.bool (((((((decide (x0 ≥ 0)) && (decide (u < 0))) || (decide (x0 < (-3)))) || (!rb)) || (!rc)) || ((x0 == (-3)) && (!((x0 == ((-3))) && ((x1 == 0) && ((x2 == 0) && (x3 == false)))))))))] rfl rfl (by kernel_rfl) rfl ⟨?_, ?_, ?_, ?_, ?_, ?_, ?_, ?_, ?_, ?_, ?_, ?_, ?_, ?_, ?_, ?_, ?_, ?_, ?_, ?_, ?_, ?_, ?_, ?_, ?_, ?_, ?_, ?_, ?_, ?_, ?_, ?_, ?_, ?_, ?_, ?_, ?_, ?_, trivial⟩ ?_
 ·exact fun _ W _ hW _ hb hd _ hK _ => gn_ hK (x_fa80 rfl (oD (by kernel_rfl)) (hb 6))
 ·exact fun _ W _ hW _ hb hd _ hK _ => gn_ hK (x_ld3 rfl (hd 0 20) ((blk_cell (cX W hW) 0).trans rfl))
 ·exact fun _ W _ hW _ hb hd _ hK _ => gn_ hK (x_geq rfl (hd 1 21) rfl)
 ·exact fun _ W _ hW _ hb hd _ hK _ => gn_ hK (x_move rfl (hd 2 22))
 ·exact fun _ W _ hW _ hb hd _ hK _ => gw_ hK (hd 3 23) fun hC => x_ld38 rfl (hb 2) (cN W hW)
 ·exact fun _ W _ hW _ hb hd _ hK _ => gw_ hK (hd 3 23) fun hC => x_move rfl (hb 5)
 ·exact fun _ W _ hW _ hb hd _ hK _ => gw_ hK (hd 3 23) fun hC => x_fa80 rfl (oD (by kernel_rfl)) (hb 6)
 ·exact fun _ W _ hW _ hb hd _ hK _ => gw_ hK (hd 3 23) fun hC => x_ld3 rfl (cnd (hd 6 26) hC) ((blk_cell (cX W hW) 0).trans rfl)
 ·intro bq W B hW hB hb hd K hK hK2; exact gc_step (wg0 (hd 3 23)) (fun hC => ⟨x_call Tryz.func75 (by kernel_rfl) rfl rfl (args3 (cnd (hd 4 24) hC) (cnd (hd 5 25) hC) (cnd (hd 7 27) hC)), (HCT.out W (HW W hW)).mono (fun e_ W_ h_ => ⟨h_.1, h_.2⟩)⟩) (fun W_ hb_ => hK _ W_ rfl hb_)
 ·exact fun _ W _ hW _ hb hd _ hK _ => gw_ hK (hd 3 23) fun hC => x_lss rfl (cnd (hd 8 28) hC) rfl
 ·exact fun _ W _ hW _ hb hd _ hK _ => gn_ hK (x_and rfl (hd 3 23) (hd 9 29))
 ·exact fun _ W _ hW _ hb hd _ hK _ => gn_ hK (x_move rfl (hd 10 30))
 ·exact fun _ W _ hW _ hb hd _ hK _ => gw_ hK (hd 11 31) fun hC => x_fa80 rfl (oD (by kernel_rfl)) (hb 6)
 ·exact fun _ W _ hW _ hb hd _ hK _ => gw_ hK (hd 11 31) fun hC => x_ld3 rfl (cnd (hd 12 32) hC) ((blk_cell (cX W hW) 0).trans rfl)
 ·exact fun _ W _ hW _ hb hd _ hK _ => gw_ hK (hd 11 31) fun hC => x_lss rfl (cnd (hd 13 33) hC) rfl
 ·exact fun _ W _ hW _ hb hd _ hK _ => gn_ hK (x_or rfl (hd 11 31) (hd 14 34))
 ·exact fun _ W _ hW _ hb hd _ hK _ => gn_ hK (x_move rfl (hd 15 35))
 ·exact fun _ W _ hW _ hb hd _ hK _ => gw_ hK (hd 16 36) fun hC => x_fa80 rfl (oD (by kernel_rfl)) (hb 6)
 ·exact fun _ W _ hW _ hb hd _ hK _ => gw_ hK (hd 16 36) fun hC => x_ld3 rfl (cnd (hd 17 37) hC) ((blk_cell (cX W hW) 1).trans rfl)
 ·intro bq W B hW hB hb hd K hK hK2; exact gc_step (wg0 (hd 16 36)) (fun hC => ⟨x_call Tryz.func35 (by kernel_rfl) rfl rfl (args3 (cnd (hd 18 38) hC) rfl rfl), (HBb.out W).mono (fun e_ W_ h_ => ⟨h_.1, h_.2.below⟩)⟩) (fun W_ hb_ => hK _ W_ rfl hb_)
 ·exact fun _ W _ hW _ hb hd _ hK _ => gw_ hK (hd 16 36) fun hC => x_not rfl (cnd (hd 19 39) hC)
 ·exact fun _ W _ hW _ hb hd _ hK _ => gn_ hK (x_or rfl (hd 16 36) (hd 20 40))
 ·exact fun _ W _ hW _ hb hd _ hK _ => gn_ hK (x_move rfl (hd 21 41))
 ·exact fun _ W _ hW _ hb hd _ hK _ => gw_ hK (hd 22 42) fun hC => x_fa80 rfl (oD (by kernel_rfl)) (hb 6)
 ·exact fun _ W _ hW _ hb hd _ hK _ => gw_ hK (hd 22 42) fun hC => x_ld3 rfl (cnd (hd 23 43) hC) ((blk_cell (cX W hW) 2).trans rfl)
 ·intro bq W B hW hB hb hd K hK hK2; exact gc_step (wg0 (hd 22 42)) (fun hC => ⟨x_call Tryz.func35 (by kernel_rfl) rfl rfl (args3 (cnd (hd 24 44) hC) rfl rfl), (HC.out W).mono (fun e_ W_ h_ => ⟨h_.1, h_.2.below⟩)⟩) (fun W_ hb_ => hK _ W_ rfl hb_)
 ·exact fun _ W _ hW _ hb hd _ hK _ => gw_ hK (hd 22 42) fun hC => x_not rfl (cnd (hd 25 45) hC)
 ·exact fun _ W _ hW _ hb hd _ hK _ => gn_ hK (x_or rfl (hd 22 42) (hd 26 46))
 ·exact fun _ W _ hW _ hb hd _ hK _ => gn_ hK (x_move rfl (hd 27 47))
 ·exact fun _ W _ hW _ hb hd _ hK _ => gw_ hK (hd 28 48) fun hC => x_fa80 rfl (oD (by kernel_rfl)) (hb 6)
 ·exact fun _ W _ hW _ hb hd _ hK _ => gw_ hK (hd 28 48) fun hC => x_ld3 rfl (cnd (hd 29 49) hC) ((blk_cell (cX W hW) 0).trans rfl)
 ·exact fun _ W _ hW _ hb hd _ hK _ => gw_ hK (hd 28 48) fun hC => x_eql rfl (cnd (hd 30 50) hC) rfl
 ·exact fun _ W _ hW _ hb hd _ hK _ => gw_ hK (hd 28 48) fun hC => x_move rfl (cnd (hd 31 51) hC)
 ·exact fun _ W _ hW _ hb hd _ hK _ => gd_step (wg (hd 32 52)) (fun hC => x_ld80 rfl (hb 6) (cX W hW)) (hK _ W rfl (Below.refl _ _))
 ·exact fun _ W _ hW _ hb hd _ hK _ => gd_step (wg (hd 32 52)) (fun hC => x_bd80 rfl) (hK _ W rfl (Below.refl _ _))
 ·exact fun _ W _ hW _ hb hd _ hK _ => gd_step (wg (hd 32 52)) (fun hC => x_neq80 rfl (cnd (hd 33 53) hC) (cnd (hd 34 54) hC)) (hK _ W rfl (Below.refl _ _))
 ·exact fun _ W _ hW _ hb hd _ hK _ => gw_ hK (hd 28 48) fun hC => x_and rfl (cnd (hd 32 52) hC) (cnd_and (hd 35 55) hC)
 ·exact fun _ W _ hW _ hb hd _ hK _ => gn_ hK (x_or rfl (hd 28 48) (hd 36 56))
 intro vals F W B hF hW hBB hV
 have hf : vals 57 = .bool (((((((decide (x0 ≥ 0)) && (decide (u < 0))) || (decide (x0 < (-3)))) || (!rb)) || (!rc)) || ((x0 == (-3)) && (!((x0 == ((-3))) && ((x1 == 0) && ((x2 == 0) && (x3 == false)))))))) := hV 37 57 (oD (by kernel_rfl)) rfl
 have HB9 := aM (HW W hW)
 have BN9 := aM (And.intro (cN W hW) BN.out.2)
 clear HB BN
 have HB := HB9
 have BN := BN9
 clear HB9 BN9 hW HW cN cX HX
 rw [hF]
 clear hF hV hBB
 simp only [cond_true, List.take, fillA, Act.put, List.setIfInBounds_toArray, List.set_cons_zero, List.set_cons_succ, hf]
 clear hf
 cases hR : ((((((decide (x0 ≥ 0)) && (decide (u < 0))) || (decide (x0 < (-3)))) || (!rb)) || (!rc)) || ((x0 == (-3)) && (!((x0 == ((-3))) && ((x1 == 0) && ((x2 == 0) && (x3 == false))))))) with
 | true =>
  obtain ⟨hn0, hn1, hn2, hn3, hn4, hn5⟩ := box6 BN.out.1
  have hN : r = false := HF.out hR
  subst hN
  go_wp2
  go_ret
  exact ⟨rfl, HB.out⟩
 | false =>
  obtain ⟨hn0, hn1, hn2, hn3, hn4, hn5⟩ := box6 BN.out.1
  have HL := aM (HT.out hR)
  clear HT HF
  go_wp2
  go_roundg (l1.length - (kk + 1))
  case measure => omega
  case rel => exact ⟨kk + 1, by omega, by omega, by go_num, HB, BN, HL⟩
def impl_routesCode.j0 : Nat → List Int → List Bool → List (S80) → Bool → Bool → List ByteArray → List (S92) → List Int → List Int → List (S95) → List (S97) → Option (Int)
 | 0, _, _, _, _, _, _, _, _, _, _, _ => none
 | k + 1, x1, x2, x3, x4, x11, x321000, x321001, x321002, x321003, x321004, x321005 => if x11 = true then (some 2) else ((impl_isNet.f k x321000 x321001 x321002 x321003 x321004 x321005).bind fun t321 => (if t321 = true then ((impl_isAround.f x321000 x321001 x321002 x321003 x321004 x321005 x1 x2).bind fun t322 => (if t322 = true then (if x4 = true then ((impl_areRoutes.f x321000 x321001 x321002 x321003 x321004 x321005 x3).bind fun t323 => (if t323 = true then (some 0) else (some 1))) else (some 0)) else (some 5))) else (some 1)))
def impl_routesCode.f (k : Nat) (l0_0 : List ByteArray) (l0_1 : List (S92)) (l0_2 : List Int) (l0_3 : List Int) (l0_4 : List (S95)) (l0_5 : List (S97)) (l1 : List Int) (l2 : List Bool) (l3 : List (S80)) (a4 : Bool) : Option (Int) := if (l1.length : Int) > 4096 then (impl_routesCode.j0 k l1 l2 l3 a4 true l0_0 l0_1 l0_2 l0_3 l0_4 l0_5) else (if (l2.length : Int) > 4096 then (impl_routesCode.j0 k l1 l2 l3 a4 true l0_0 l0_1 l0_2 l0_3 l0_4 l0_5) else (impl_routesCode.j0 k l1 l2 l3 a4 (decide ((l3.length : Int) > 4096)) l0_0 l0_1 l0_2 l0_3 l0_4 l0_5))
theorem impl_routesCode.calls (k A0_0 c0_0 l0_0 A0_1 c0_1 l0_1 A0_2 c0_2 l0_2 A0_3 c0_3 l0_3 A0_4 c0_4 l0_4 A0_5 c0_5 l0_5 A1 c1 l1 A2 c2 l2 A3 c3 l3 a4 r w) (hr0_0 : Kd.C Kd.string w A0_0 l0_0.length l0_0) (hc0_0 : l0_0.length ≤ c0_0) (hr0_1 : Kd.C k92 w A0_1 l0_1.length l0_1) (hc0_1 : l0_1.length ≤ c0_1) (hr0_2 : Kd.C (Kd.int .i64) w A0_2 l0_2.length l0_2) (hc0_2 : l0_2.length ≤ c0_2) (hr0_3 : Kd.C (Kd.int .i64) w A0_3 l0_3.length l0_3) (hc0_3 : l0_3.length ≤ c0_3) (hr0_4 : Kd.C k95 w A0_4 l0_4.length l0_4) (hc0_4 : l0_4.length ≤ c0_4) (hr0_5 : Kd.C k97 w A0_5 l0_5.length l0_5) (hc0_5 : l0_5.length ≤ c0_5) (hr1 : Kd.C (Kd.int .i64) w A1 l1.length l1) (hc1 : l1.length ≤ c1) (hr2 : Kd.C Kd.bool w A2 l2.length l2) (hc2 : l2.length ≤ c2) (hr3 : Kd.C k80 w A3 l3.length l3) (hc3 : l3.length ≤ c3) (h : impl_routesCode.f k l0_0 l0_1 l0_2 l0_3 l0_4 l0_5 l1 l2 l3 a4 = some r) :
  Calls Tryz.prog 34 #[.agg #[.slice A0_0 l0_0.length c0_0, .slice A0_1 l0_1.length c0_1, .slice A0_2 l0_2.length c0_2, .slice A0_3 l0_3.length c0_3, .slice A0_4 l0_4.length c0_4, .slice A0_5 l0_5.length c0_5], .slice A1 l1.length c1, .slice A2 l2.length c2, .slice A3 l3.length c3, .bool a4] w fun e w' => e = .returned (.int .i64 r) ∧ Below w.heap.size w w' := by
 have hu38 := Tryz.underlying38
 obtain ⟨HR0_0, HC0_0, HR0_1, HC0_1, HR0_2, HC0_2, HR0_3, HC0_3, HR0_4, HC0_4, HR0_5, HC0_5⟩ := as12 hr0_0 hc0_0 hr0_1 hc0_1 hr0_2 hc0_2 hr0_3 hc0_3 hr0_4 hc0_4 hr0_5 hc0_5
 clear hr0_0 hc0_0 hr0_1 hc0_1 hr0_2 hc0_2 hr0_3 hc0_3 hr0_4 hc0_4 hr0_5 hc0_5
 have HR1 := aM hr1
 have HC1 := aM hc1
 clear hr1 hc1
 have HR2 := aM hr2
 have HC2 := aM hc2
 clear hr2 hc2
 have HR3 := aM hr3
 have HC3 := aM hc3
 clear hr3 hc3
 have HB := aM (Below.refl w.heap.size w)
 have H : (if (l1.length : Int) > 4096 then (impl_routesCode.j0 k l1 l2 l3 a4 true l0_0 l0_1 l0_2 l0_3 l0_4 l0_5) else (if (l2.length : Int) > 4096 then (impl_routesCode.j0 k l1 l2 l3 a4 true l0_0 l0_1 l0_2 l0_3 l0_4 l0_5) else (impl_routesCode.j0 k l1 l2 l3 a4 (decide ((l3.length : Int) > 4096)) l0_0 l0_1 l0_2 l0_3 l0_4 l0_5))) = some r := h
 clear h
 have HC6 := aM H
 clear H
 go_enter Tryz.func34, Tryz.ntmps34
 go_upto_region 1 with (((with_reducible refine gate_dst (N := 5) rfl ?_); (try (refine gate_guard (by rfl) ?_; dsimp only)); refine bxE HB ?_; intro gb320 hg w7 hb BK320 GW320 GE320 HB; clear hb hg))
 (try simp only [Act.put, List.setIfInBounds_toArray, List.set_cons_zero, List.set_cons_succ])
 go_cut [11] (fun v11 wc => ∃ (kq : Nat) (x11_5 : Bool), v11 = .bool x11_5 ∧ Aside0 (impl_routesCode.j0 kq l1 l2 l3 a4 x11_5 l0_0 l0_1 l0_2 l0_3 l0_4 l0_5 = some r) ∧ Aside0 (kq ≤ k) ∧ Aside0 (wc.heap[gb320]? = some (.cells #[(.slice A0_0 l0_0.length c0_0), (.slice A0_1 l0_1.length c0_1), (.slice A0_2 l0_2.length c0_2), (.slice A0_3 l0_3.length c0_3), (.slice A0_4 l0_4.length c0_4), (.slice A0_5 l0_5.length c0_5)] 38 (0, 0))) ∧ Aside0 (Below w.heap.size w wc))
 case first =>
  obtain ⟨H⟩ := HC6
  by_cases c8 : (l1.length : Int) > 4096
  ·rw [if_pos c8] at H
   have c8b0 : decide (4096 < (l1.length : Int)) = true := decide_eq_true c8
   have c8b1 : decide (4096 < l1.length) = true := decide_eq_true (by omega)
   clear c8
   (skip)
   have H' := aM H
   clear H
   go_wp2
   go_meet
   case rel => exact ⟨_, (true), (by rfl), H', ⟨by omega⟩, ⟨by exact BK320.out⟩, ⟨by repeat ((with_reducible exact HB.out))⟩⟩
  rw [if_neg c8] at H
  have c8b0 : decide (4096 < (l1.length : Int)) = false := decide_eq_false c8
  have c8b1 : decide (4096 < l1.length) = false := decide_eq_false (by omega)
  clear c8
  (skip)
  by_cases c9 : (l2.length : Int) > 4096
  ·rw [if_pos c9] at H
   have c9b0 : decide (4096 < (l2.length : Int)) = true := decide_eq_true c9
   have c9b1 : decide (4096 < l2.length) = true := decide_eq_true (by omega)
   clear c9
   have H' := aM H
   clear H
   go_wp2
   go_meet
   case rel => exact ⟨_, (true), (by rfl), H', ⟨by omega⟩, ⟨by exact BK320.out⟩, ⟨by repeat ((with_reducible exact HB.out))⟩⟩
  rw [if_neg c9] at H
  have c9b0 : decide (4096 < (l2.length : Int)) = false := decide_eq_false c9
  have c9b1 : decide (4096 < l2.length) = false := decide_eq_false (by omega)
  clear c9
  have H' := aM H
  clear H
  go_wp2
  go_meet
  case rel => exact ⟨_, (decide ((l3.length : Int) > 4096)), (by rfl), H', ⟨by omega⟩, ⟨by exact BK320.out⟩, ⟨by repeat ((with_reducible exact HB.out))⟩⟩
 clear HC6
 obtain ⟨kq, x11_5, rfl, HA, HJ5, BK320, HB⟩ := hcut
 cases kq with
 | zero => exact absurd HA.out (by simp [impl_routesCode.j0])
 | succ kj5 =>
  obtain ⟨H⟩ := HA
  simp only [impl_routesCode.j0] at H
  by_cases c10 : x11_5 = true
  ·subst c10
   rw [if_pos rfl] at H
   obtain rfl := Option.some.inj H
   go_wp2
   go_ret
   exact ⟨by rfl, by repeat ((with_reducible exact HB.out))⟩
  replace c10 := Bool.eq_false_iff.mpr c10
  subst c10
  rw [if_neg (show ¬ (false = true) by decide)] at H
  obtain ⟨t321, A11, H⟩ := bA_ H
  by_cases c12 : t321 = true
  rotate_left
  ·replace c12 := Bool.eq_false_iff.mpr c12
   subst c12
   rw [if_neg (show ¬ (false = true) by decide)] at H
   obtain rfl := Option.some.inj H
   obtain ⟨hcz38_0, hcz38_1, hcz38_2, hcz38_3, hcz38_4, hcz38_5⟩ := swc6 BK320.out
   obtain ⟨hfz38_0, hfz38_1, hfz38_2, hfz38_3, hfz38_4, hfz38_5⟩ := swf6 BK320.out
   go_wp2_with ((go_at_call 58; (with_reducible refine (impl_isNet.calls kj5 _ _ l0_0 _ _ l0_1 _ _ l0_2 _ _ l0_3 _ _ l0_4 _ _ l0_5 false _ (Kd.C_below HR0_0.out HB.out) HC0_0.out (Kd.C_below HR0_1.out HB.out) HC0_1.out (Kd.C_below HR0_2.out HB.out) HC0_2.out (Kd.C_below HR0_3.out HB.out) HC0_3.out (Kd.C_below HR0_4.out HB.out) HC0_4.out (Kd.C_below HR0_5.out HB.out) HC0_5.out A11.out).mono ?_); rintro e w39 ⟨rfl, hb⟩; replace BK320 := aK BK320 hb; replace HB := aB HB hb; (try clear hb)))
   go_ret
   exact ⟨by rfl, by repeat ((with_reducible exact HB.out))⟩
  subst c12
  rw [if_pos rfl] at H
  obtain ⟨t322, A13, H⟩ := bA_ H
  by_cases c14 : t322 = true
  rotate_left
  ·replace c14 := Bool.eq_false_iff.mpr c14
   subst c14
   rw [if_neg (show ¬ (false = true) by decide)] at H
   obtain rfl := Option.some.inj H
   obtain ⟨hcz34_0, hcz34_1, hcz34_2, hcz34_3, hcz34_4, hcz34_5⟩ := swc6 BK320.out
   obtain ⟨hfz34_0, hfz34_1, hfz34_2, hfz34_3, hfz34_4, hfz34_5⟩ := swf6 BK320.out
   go_wp2_with (first | (go_at_call 58; (with_reducible refine (impl_isNet.calls kj5 _ _ l0_0 _ _ l0_1 _ _ l0_2 _ _ l0_3 _ _ l0_4 _ _ l0_5 true _ (Kd.C_below HR0_0.out HB.out) HC0_0.out (Kd.C_below HR0_1.out HB.out) HC0_1.out (Kd.C_below HR0_2.out HB.out) HC0_2.out (Kd.C_below HR0_3.out HB.out) HC0_3.out (Kd.C_below HR0_4.out HB.out) HC0_4.out (Kd.C_below HR0_5.out HB.out) HC0_5.out A11.out).mono ?_); rintro e w35 ⟨rfl, hb⟩; replace BK320 := aK BK320 hb; replace HB := aB HB hb; (try clear hb); obtain ⟨hcz36_0, hcz36_1, hcz36_2, hcz36_3, hcz36_4, hcz36_5⟩ := swc6 BK320.out; obtain ⟨hfz36_0, hfz36_1, hfz36_2, hfz36_3, hfz36_4, hfz36_5⟩ := swf6 BK320.out) | (go_at_call 59; (with_reducible refine (impl_isAround.calls _ _ l0_0 _ _ l0_1 _ _ l0_2 _ _ l0_3 _ _ l0_4 _ _ l0_5 _ _ l1 _ _ l2 false _ (Kd.C_below HR0_0.out HB.out) HC0_0.out (Kd.C_below HR0_1.out HB.out) HC0_1.out (Kd.C_below HR0_2.out HB.out) HC0_2.out (Kd.C_below HR0_3.out HB.out) HC0_3.out (Kd.C_below HR0_4.out HB.out) HC0_4.out (Kd.C_below HR0_5.out HB.out) HC0_5.out (Kd.C_below HR1.out HB.out) HC1.out (Kd.C_below HR2.out HB.out) HC2.out A13.out).mono ?_); rintro e w37 ⟨rfl, hb⟩; replace BK320 := aK BK320 hb; replace HB := aB HB hb; (try clear hb)))
   go_ret
   exact ⟨by rfl, by repeat ((with_reducible exact HB.out))⟩
  subst c14
  rw [if_pos rfl] at H
  by_cases c15 : a4 = true
  rotate_left
  ·replace c15 := Bool.eq_false_iff.mpr c15
   subst c15
   rw [if_neg (show ¬ (false = true) by decide)] at H
   obtain rfl := Option.some.inj H
   obtain ⟨hcz30_0, hcz30_1, hcz30_2, hcz30_3, hcz30_4, hcz30_5⟩ := swc6 BK320.out
   obtain ⟨hfz30_0, hfz30_1, hfz30_2, hfz30_3, hfz30_4, hfz30_5⟩ := swf6 BK320.out
   go_wp2_with (first | (go_at_call 58; (with_reducible refine (impl_isNet.calls kj5 _ _ l0_0 _ _ l0_1 _ _ l0_2 _ _ l0_3 _ _ l0_4 _ _ l0_5 true _ (Kd.C_below HR0_0.out HB.out) HC0_0.out (Kd.C_below HR0_1.out HB.out) HC0_1.out (Kd.C_below HR0_2.out HB.out) HC0_2.out (Kd.C_below HR0_3.out HB.out) HC0_3.out (Kd.C_below HR0_4.out HB.out) HC0_4.out (Kd.C_below HR0_5.out HB.out) HC0_5.out A11.out).mono ?_); rintro e w31 ⟨rfl, hb⟩; replace BK320 := aK BK320 hb; replace HB := aB HB hb; (try clear hb); obtain ⟨hcz32_0, hcz32_1, hcz32_2, hcz32_3, hcz32_4, hcz32_5⟩ := swc6 BK320.out; obtain ⟨hfz32_0, hfz32_1, hfz32_2, hfz32_3, hfz32_4, hfz32_5⟩ := swf6 BK320.out) | (go_at_call 59; (with_reducible refine (impl_isAround.calls _ _ l0_0 _ _ l0_1 _ _ l0_2 _ _ l0_3 _ _ l0_4 _ _ l0_5 _ _ l1 _ _ l2 true _ (Kd.C_below HR0_0.out HB.out) HC0_0.out (Kd.C_below HR0_1.out HB.out) HC0_1.out (Kd.C_below HR0_2.out HB.out) HC0_2.out (Kd.C_below HR0_3.out HB.out) HC0_3.out (Kd.C_below HR0_4.out HB.out) HC0_4.out (Kd.C_below HR0_5.out HB.out) HC0_5.out (Kd.C_below HR1.out HB.out) HC1.out (Kd.C_below HR2.out HB.out) HC2.out A13.out).mono ?_); rintro e w33 ⟨rfl, hb⟩; replace BK320 := aK BK320 hb; replace HB := aB HB hb; (try clear hb)))
   go_ret
   exact ⟨by rfl, by repeat ((with_reducible exact HB.out))⟩
  subst c15
  rw [if_pos rfl] at H
  obtain ⟨t323, A16, H⟩ := bA_ H
  by_cases c17 : t323 = true
  ·subst c17
   rw [if_pos rfl] at H
   obtain rfl := Option.some.inj H
   obtain ⟨hcz18_0, hcz18_1, hcz18_2, hcz18_3, hcz18_4, hcz18_5⟩ := swc6 BK320.out
   obtain ⟨hfz18_0, hfz18_1, hfz18_2, hfz18_3, hfz18_4, hfz18_5⟩ := swf6 BK320.out
   go_wp2_with (first | (go_at_call 58; (with_reducible refine (impl_isNet.calls kj5 _ _ l0_0 _ _ l0_1 _ _ l0_2 _ _ l0_3 _ _ l0_4 _ _ l0_5 true _ (Kd.C_below HR0_0.out HB.out) HC0_0.out (Kd.C_below HR0_1.out HB.out) HC0_1.out (Kd.C_below HR0_2.out HB.out) HC0_2.out (Kd.C_below HR0_3.out HB.out) HC0_3.out (Kd.C_below HR0_4.out HB.out) HC0_4.out (Kd.C_below HR0_5.out HB.out) HC0_5.out A11.out).mono ?_); rintro e w19 ⟨rfl, hb⟩; replace BK320 := aK BK320 hb; replace HB := aB HB hb; (try clear hb); obtain ⟨hcz20_0, hcz20_1, hcz20_2, hcz20_3, hcz20_4, hcz20_5⟩ := swc6 BK320.out; obtain ⟨hfz20_0, hfz20_1, hfz20_2, hfz20_3, hfz20_4, hfz20_5⟩ := swf6 BK320.out) | (go_at_call 59; (with_reducible refine (impl_isAround.calls _ _ l0_0 _ _ l0_1 _ _ l0_2 _ _ l0_3 _ _ l0_4 _ _ l0_5 _ _ l1 _ _ l2 true _ (Kd.C_below HR0_0.out HB.out) HC0_0.out (Kd.C_below HR0_1.out HB.out) HC0_1.out (Kd.C_below HR0_2.out HB.out) HC0_2.out (Kd.C_below HR0_3.out HB.out) HC0_3.out (Kd.C_below HR0_4.out HB.out) HC0_4.out (Kd.C_below HR0_5.out HB.out) HC0_5.out (Kd.C_below HR1.out HB.out) HC1.out (Kd.C_below HR2.out HB.out) HC2.out A13.out).mono ?_); rintro e w21 ⟨rfl, hb⟩; replace BK320 := aK BK320 hb; replace HB := aB HB hb; (try clear hb); obtain ⟨hcz22_0, hcz22_1, hcz22_2, hcz22_3, hcz22_4, hcz22_5⟩ := swc6 BK320.out; obtain ⟨hfz22_0, hfz22_1, hfz22_2, hfz22_3, hfz22_4, hfz22_5⟩ := swf6 BK320.out) | (go_at_call 60; (with_reducible refine (impl_areRoutes.calls _ _ l0_0 _ _ l0_1 _ _ l0_2 _ _ l0_3 _ _ l0_4 _ _ l0_5 _ _ l3 true _ (Kd.C_below HR0_0.out HB.out) HC0_0.out (Kd.C_below HR0_1.out HB.out) HC0_1.out (Kd.C_below HR0_2.out HB.out) HC0_2.out (Kd.C_below HR0_3.out HB.out) HC0_3.out (Kd.C_below HR0_4.out HB.out) HC0_4.out (Kd.C_below HR0_5.out HB.out) HC0_5.out (Kd.C_below HR3.out HB.out) HC3.out A16.out).mono ?_); rintro e w23 ⟨rfl, hb⟩; replace BK320 := aK BK320 hb; replace HB := aB HB hb; (try clear hb)))
   go_ret
   exact ⟨by rfl, by repeat ((with_reducible exact HB.out))⟩
  replace c17 := Bool.eq_false_iff.mpr c17
  subst c17
  rw [if_neg (show ¬ (false = true) by decide)] at H
  obtain rfl := Option.some.inj H
  obtain ⟨hcz24_0, hcz24_1, hcz24_2, hcz24_3, hcz24_4, hcz24_5⟩ := swc6 BK320.out
  obtain ⟨hfz24_0, hfz24_1, hfz24_2, hfz24_3, hfz24_4, hfz24_5⟩ := swf6 BK320.out
  go_wp2_with (first | (go_at_call 58; (with_reducible refine (impl_isNet.calls kj5 _ _ l0_0 _ _ l0_1 _ _ l0_2 _ _ l0_3 _ _ l0_4 _ _ l0_5 true _ (Kd.C_below HR0_0.out HB.out) HC0_0.out (Kd.C_below HR0_1.out HB.out) HC0_1.out (Kd.C_below HR0_2.out HB.out) HC0_2.out (Kd.C_below HR0_3.out HB.out) HC0_3.out (Kd.C_below HR0_4.out HB.out) HC0_4.out (Kd.C_below HR0_5.out HB.out) HC0_5.out A11.out).mono ?_); rintro e w25 ⟨rfl, hb⟩; replace BK320 := aK BK320 hb; replace HB := aB HB hb; (try clear hb); obtain ⟨hcz26_0, hcz26_1, hcz26_2, hcz26_3, hcz26_4, hcz26_5⟩ := swc6 BK320.out; obtain ⟨hfz26_0, hfz26_1, hfz26_2, hfz26_3, hfz26_4, hfz26_5⟩ := swf6 BK320.out) | (go_at_call 59; (with_reducible refine (impl_isAround.calls _ _ l0_0 _ _ l0_1 _ _ l0_2 _ _ l0_3 _ _ l0_4 _ _ l0_5 _ _ l1 _ _ l2 true _ (Kd.C_below HR0_0.out HB.out) HC0_0.out (Kd.C_below HR0_1.out HB.out) HC0_1.out (Kd.C_below HR0_2.out HB.out) HC0_2.out (Kd.C_below HR0_3.out HB.out) HC0_3.out (Kd.C_below HR0_4.out HB.out) HC0_4.out (Kd.C_below HR0_5.out HB.out) HC0_5.out (Kd.C_below HR1.out HB.out) HC1.out (Kd.C_below HR2.out HB.out) HC2.out A13.out).mono ?_); rintro e w27 ⟨rfl, hb⟩; replace BK320 := aK BK320 hb; replace HB := aB HB hb; (try clear hb); obtain ⟨hcz28_0, hcz28_1, hcz28_2, hcz28_3, hcz28_4, hcz28_5⟩ := swc6 BK320.out; obtain ⟨hfz28_0, hfz28_1, hfz28_2, hfz28_3, hfz28_4, hfz28_5⟩ := swf6 BK320.out) | (go_at_call 60; (with_reducible refine (impl_areRoutes.calls _ _ l0_0 _ _ l0_1 _ _ l0_2 _ _ l0_3 _ _ l0_4 _ _ l0_5 _ _ l3 false _ (Kd.C_below HR0_0.out HB.out) HC0_0.out (Kd.C_below HR0_1.out HB.out) HC0_1.out (Kd.C_below HR0_2.out HB.out) HC0_2.out (Kd.C_below HR0_3.out HB.out) HC0_3.out (Kd.C_below HR0_4.out HB.out) HC0_4.out (Kd.C_below HR0_5.out HB.out) HC0_5.out (Kd.C_below HR3.out HB.out) HC3.out A16.out).mono ?_); rintro e w29 ⟨rfl, hb⟩; replace BK320 := aK BK320 hb; replace HB := aB HB hb; (try clear hb)))
  go_ret
  exact ⟨by rfl, by repeat ((with_reducible exact HB.out))⟩
def impl_Route.l0 : Nat → List (S80) → List (S80) → Int → Int → Option (Bool)
 | 0, _, _, _, _ => none
 | k + 1, x0, x1, x12, x13 => if x13 < x12 then (if 0 ≤ x13 then (if x13 < (x0.length : Int) then (if x13 < (x1.length : Int) then (if (!(((rd_T80 x0 x13).f0) == ((rd_T80 x1 x13).f0)) || (!(((rd_T80 x0 x13).f1) == ((rd_T80 x1 x13).f1)) || (!(((rd_T80 x0 x13).f2) == ((rd_T80 x1 x13).f2)) || (!(((rd_T80 x0 x13).f3) == ((rd_T80 x1 x13).f3)))))) = true then (some false) else (impl_Route.l0 k x0 x1 x12 (wrap64 (x13 + 1)))) else (none)) else (none)) else (none)) else (some true)
def impl_Route.f (k : Nat) (l0 : List (S80)) (l1 : List (S80)) : Option (Bool) := if (l0.length : Int) = (l1.length : Int) then (impl_Route.l0 k l0 l1 (l0.length : Int) 0) else (some false)
theorem impl_Route.calls (k A0 c0 l0 A1 c1 l1 r w) (hr0 : Kd.C k80 w A0 l0.length l0) (hc0 : l0.length ≤ c0) (hr1 : Kd.C k80 w A1 l1.length l1) (hc1 : l1.length ≤ c1) (h : impl_Route.f k l0 l1 = some r) :
  Calls Tryz.prog 38 #[.slice A0 l0.length c0, .slice A1 l1.length c1] w fun e w' => e = .returned (.bool r) ∧ Drawn0 w w' := by
 have hu80 := Tryz.underlying58
 have HR0 := aM hr0
 have HC0 := aM hc0
 clear hr0 hc0
 have HR1 := aM hr1
 have HC1 := aM hc1
 clear hr1 hc1
 have H : (if (l0.length : Int) = (l1.length : Int) then (impl_Route.l0 k l0 l1 (l0.length : Int) 0) else (some false)) = some r := h
 clear h
 by_cases c3 : (l0.length : Int) = (l1.length : Int)
 rotate_left
 ·rw [if_neg c3] at H
  have c3b0 := beq_eq_false_iff_ne.mpr c3
  have c3b1 : ((l0.length : Int) != (l1.length : Int)) = true := bne_iff_ne.mpr c3
  have c3b2 : (l0.length == l1.length) = false := by (simp at c3 ⊢; omega)
  obtain rfl := Option.some.inj H
  go_enter Tryz.func38, Tryz.ntmps38
  go_wp2
  repeat (go_quiet (fail); try go_wp2)
  go_ret
  exact ⟨by rfl, by repeat (exact Drawn0.refl _)⟩
 rw [if_pos c3] at H
 have c3b0 := beq_iff_eq.mpr c3
 have c3b1 : ((l0.length : Int) != (l1.length : Int)) = false := bne_eq_false_iff_eq.mpr c3
 have c3b2 : (l0.length == l1.length) = true := by (simp at c3 ⊢; omega)
 clear c3
 have H' := aM H
 clear H
 go_enter Tryz.func38, Tryz.ntmps38
 go_wp2
 repeat (go_quiet (fail); try go_wp2)
 go_loopg [13] k (fun kq v13 w' => ∃ (x13_1 : Int), v13 = .int .i64 x13_1 ∧ Aside0 (impl_Route.l0 kq l0 l1 (l0.length : Int) x13_1 = some r) ∧ Aside0 (kq ≤ k) ∧ Drawn0 w w')
 case atStart => exact ⟨(0), (by rfl), H', ⟨Nat.le_refl _⟩, by repeat (exact Drawn0.refl _)⟩
 clear H'
 clear c3b0 c3b1 c3b2
 obtain ⟨x13_1, rfl, HA, HK1, ⟨m1, rfl⟩⟩ := hrel
 cases gk with
 | zero => exact absurd HA.out (by simp [impl_Route.l0])
 | succ k1 =>
  obtain ⟨H⟩ := HA
  simp only [impl_Route.l0] at H
  by_cases c4 : x13_1 < (l0.length : Int)
  rotate_left
  ·rw [if_neg c4] at H
   have c4b0 := decide_eq_false c4
   clear c4
   obtain rfl := Option.some.inj H
   go_wp2
   repeat (go_quiet (fail); try go_wp2)
   go_ret
   exact ⟨by rfl, by repeat (first | exact Drawn0.refl _ | apply Drawn0.step)⟩
  rw [if_pos c4] at H
  have c4b0 := decide_eq_true c4
  clear c4
  obtain ⟨c5b0, H⟩ := iD H
  obtain ⟨c6b0, H⟩ := iD H
  obtain ⟨c7b0, H⟩ := iD H
  by_cases c8 : (!(((rd_T80 l0 x13_1).f0) == ((rd_T80 l1 x13_1).f0)) || (!(((rd_T80 l0 x13_1).f1) == ((rd_T80 l1 x13_1).f1)) || (!(((rd_T80 l0 x13_1).f2) == ((rd_T80 l1 x13_1).f2)) || (!(((rd_T80 l0 x13_1).f3) == ((rd_T80 l1 x13_1).f3)))))) = true
  ·rw [if_pos c8] at H
   have c8b0 : (!(((rd_T80 l0 x13_1).f0) == ((rd_T80 l1 x13_1).f0)) || (!(((rd_T80 l0 x13_1).f1) == ((rd_T80 l1 x13_1).f1)) || (!(((rd_T80 l0 x13_1).f2) == ((rd_T80 l1 x13_1).f2)) || (!(((rd_T80 l0 x13_1).f3) == ((rd_T80 l1 x13_1).f3)))))) = true := c8
   clear c8
   obtain rfl := Option.some.inj H
   have p324 : 0 ≤ (x13_1 : Int) := oD ‹_›
   have q324 : x13_1 < (l0.length : Int) := oD ‹_›
   obtain ⟨ad324, e324, hx324_0, hx324_1, hx324_2, hx324_3⟩ := at_T80 HR0.out x13_1 p324 q324
   cases e324
   replace p324 := eq_true p324
   replace q324 := eq_true q324
   have p325 : 0 ≤ (x13_1 : Int) := oD ‹_›
   have q325 : x13_1 < (l1.length : Int) := oD ‹_›
   obtain ⟨ad325, e325, hx325_0, hx325_1, hx325_2, hx325_3⟩ := at_T80 HR1.out x13_1 p325 q325
   cases e325
   replace p325 := eq_true p325
   replace q325 := eq_true q325
   go_wp2
   repeat (go_quiet (fail); try go_wp2)
   go_ret
   exact ⟨by rfl, by repeat (first | exact Drawn0.refl _ | apply Drawn0.step)⟩
  rw [if_neg c8] at H
  have c8b0 : (!(((rd_T80 l0 x13_1).f0) == ((rd_T80 l1 x13_1).f0)) || (!(((rd_T80 l0 x13_1).f1) == ((rd_T80 l1 x13_1).f1)) || (!(((rd_T80 l0 x13_1).f2) == ((rd_T80 l1 x13_1).f2)) || (!(((rd_T80 l0 x13_1).f3) == ((rd_T80 l1 x13_1).f3)))))) = false := by simpa using c8
  clear c8
  have H' := aM H
  clear H
  have p324 : 0 ≤ (x13_1 : Int) := oD ‹_›
  have q324 : x13_1 < (l0.length : Int) := oD ‹_›
  obtain ⟨ad324, e324, hx324_0, hx324_1, hx324_2, hx324_3⟩ := at_T80 HR0.out x13_1 p324 q324
  cases e324
  replace p324 := eq_true p324
  replace q324 := eq_true q324
  have p325 : 0 ≤ (x13_1 : Int) := oD ‹_›
  have q325 : x13_1 < (l1.length : Int) := oD ‹_›
  obtain ⟨ad325, e325, hx325_0, hx325_1, hx325_2, hx325_3⟩ := at_T80 HR1.out x13_1 p325 q325
  cases e325
  replace p325 := eq_true p325
  replace q325 := eq_true q325
  go_wp2
  repeat (go_quiet (fail); try go_wp2)
  go_roundg k1
  case measure => have := HK1.out; omega
  case rel => exact ⟨(wrap64 (x13_1 + 1)), (by rfl), H', ⟨by have := HK1.out; omega⟩, by repeat (first | exact Drawn0.refl _ | apply Drawn0.step)⟩
def impl_neighbours.l0 : Nat → Int → List Bool → List Int → Int → Int → List ByteArray → List (S92) → List Int → List Int → List (S95) → List (S97) → Option (List Int)
 | 0, _, _, _, _, _, _, _, _, _, _, _ => none
 | k + 1, x1, x2, x7, x12, x13, x327000, x327001, x327002, x327003, x327004, x327005 => if x13 < x12 then ((impl_linkOf.f x327000 x327001 x327002 x327003 x327004 x327005 x1 x13).bind fun t327 => (if t327 ≥ 0 then (if 0 ≤ t327 then (if t327 < (x2.length : Int) then (if rdOf false x2 t327 = true then (impl_neighbours.l0 k x1 x2 x7 x12 (wrap64 (x13 + 1)) x327000 x327001 x327002 x327003 x327004 x327005) else (if x7.length < 17592186044416 then (impl_neighbours.l0 k x1 x2 (x7 ++ [x13]) x12 (wrap64 (x13 + 1)) x327000 x327001 x327002 x327003 x327004 x327005) else (none))) else (none)) else (none)) else (impl_neighbours.l0 k x1 x2 x7 x12 (wrap64 (x13 + 1)) x327000 x327001 x327002 x327003 x327004 x327005))) else (some x7)
def impl_neighbours.f (k : Nat) (l0_0 : List ByteArray) (l0_1 : List (S92)) (l0_2 : List Int) (l0_3 : List Int) (l0_4 : List (S95)) (l0_5 : List (S97)) (a1 : Int) (l2 : List Bool) : Option (List Int) := impl_neighbours.l0 k a1 l2 ([] : List Int) (l0_0.length : Int) 0 l0_0 l0_1 l0_2 l0_3 l0_4 l0_5
theorem impl_neighbours.calls (k A0_0 c0_0 l0_0 A0_1 c0_1 l0_1 A0_2 c0_2 l0_2 A0_3 c0_3 l0_3 A0_4 c0_4 l0_4 A0_5 c0_5 l0_5 a1 A2 c2 l2 r w) (hr0_0 : Kd.C Kd.string w A0_0 l0_0.length l0_0) (hc0_0 : l0_0.length ≤ c0_0) (hr0_1 : Kd.C k92 w A0_1 l0_1.length l0_1) (hc0_1 : l0_1.length ≤ c0_1) (hr0_2 : Kd.C (Kd.int .i64) w A0_2 l0_2.length l0_2) (hc0_2 : l0_2.length ≤ c0_2) (hr0_3 : Kd.C (Kd.int .i64) w A0_3 l0_3.length l0_3) (hc0_3 : l0_3.length ≤ c0_3) (hr0_4 : Kd.C k95 w A0_4 l0_4.length l0_4) (hc0_4 : l0_4.length ≤ c0_4) (hr0_5 : Kd.C k97 w A0_5 l0_5.length l0_5) (hc0_5 : l0_5.length ≤ c0_5) (hr2 : Kd.C Kd.bool w A2 l2.length l2) (hc2 : l2.length ≤ c2) (h : impl_neighbours.f k l0_0 l0_1 l0_2 l0_3 l0_4 l0_5 a1 l2 = some r) :
  Calls Tryz.prog 88 #[.agg #[.slice A0_0 l0_0.length c0_0, .slice A0_1 l0_1.length c0_1, .slice A0_2 l0_2.length c0_2, .slice A0_3 l0_3.length c0_3, .slice A0_4 l0_4.length c0_4, .slice A0_5 l0_5.length c0_5], .int .i64 a1, .slice A2 l2.length c2] w fun e w' => ∃ v0_ : Value, e = .returned (v0_) ∧ Kd.R (Kd.int .i64) 3 w' w.heap.size (fun _ => True) v0_ r ∧ Below w.heap.size w w' := by
 have hu38 := Tryz.underlying38
 obtain ⟨HR0_0, HC0_0, HR0_1, HC0_1, HR0_2, HC0_2, HR0_3, HC0_3, HR0_4, HC0_4, HR0_5, HC0_5⟩ := as12 hr0_0 hc0_0 hr0_1 hc0_1 hr0_2 hc0_2 hr0_3 hc0_3 hr0_4 hc0_4 hr0_5 hc0_5
 clear hr0_0 hc0_0 hr0_1 hc0_1 hr0_2 hc0_2 hr0_3 hc0_3 hr0_4 hc0_4 hr0_5 hc0_5
 have HR2 := aM hr2
 have HC2 := aM hc2
 clear hr2 hc2
 have HB := aM (Below.refl w.heap.size w)
 have H : (impl_neighbours.l0 k a1 l2 ([] : List Int) (l0_0.length : Int) 0 l0_0 l0_1 l0_2 l0_3 l0_4 l0_5) = some r := h
 clear h
 have H' := aM H
 clear H
 go_enter Tryz.func88, Tryz.ntmps88
 go_wp2_with (((with_reducible refine gate_dst (N := 3) rfl ?_); refine bxE HB ?_; intro gb326 hg w4 hb BK326 GW326 GE326 HB; clear hb hg; obtain ⟨hcz5_0, hcz5_1, hcz5_2, hcz5_3, hcz5_4, hcz5_5⟩ := swc6 BK326.out; obtain ⟨hfz5_0, hfz5_1, hfz5_2, hfz5_3, hfz5_4, hfz5_5⟩ := swf6 BK326.out))
 go_loopg [7, 13] k (fun kq v7 v13 w' => ∃ (x7_1 : List Int) (x13_1 : Int), v13 = .int .i64 x13_1 ∧ Aside0 (impl_neighbours.l0 kq a1 l2 x7_1 (l0_0.length : Int) x13_1 l0_0 l0_1 l0_2 l0_3 l0_4 l0_5 = some r) ∧ Aside0 (kq ≤ k) ∧ Aside0 (Kd.R (Kd.int .i64) 3 w' w.heap.size (fun _ => True) v7 x7_1) ∧ Aside0 (w'.heap[gb326]? = some (.cells #[(.slice A0_0 l0_0.length c0_0), (.slice A0_1 l0_1.length c0_1), (.slice A0_2 l0_2.length c0_2), (.slice A0_3 l0_3.length c0_3), (.slice A0_4 l0_4.length c0_4), (.slice A0_5 l0_5.length c0_5)] 38 (0, 0))) ∧ Aside0 (Below w.heap.size w w'))
 case atStart => exact ⟨(([] : List Int)), (0), (by rfl), H', ⟨Nat.le_refl _⟩, ⟨by exact Kd.R_nil _ _ _ _ _⟩, ⟨by exact BK326.out⟩, ⟨by repeat ((with_reducible exact HB.out))⟩⟩
 clear H'
 clear hcz5_0 hcz5_1 hcz5_2 hcz5_3 hcz5_4 hcz5_5 hfz5_0 hfz5_1 hfz5_2 hfz5_3 hfz5_4 hfz5_5
 obtain ⟨x7_1, x13_1, rfl, HA, HK1, HO_7, BK326, HB⟩ := hrel
 cases gk with
 | zero => exact absurd HA.out (by simp [impl_neighbours.l0])
 | succ k1 =>
  obtain ⟨H⟩ := HA
  simp only [impl_neighbours.l0] at H
  by_cases c6 : x13_1 < (l0_0.length : Int)
  rotate_left
  ·rw [if_neg c6] at H
   have c6b0 := decide_eq_false c6
   clear c6
   obtain rfl := Option.some.inj H
   go_wp2
   go_ret
   exact ⟨_, by rfl, by exact HO_7.out, by repeat ((with_reducible exact HB.out))⟩
  rw [if_pos c6] at H
  have c6b0 := decide_eq_true c6
  clear c6
  obtain ⟨t327, A7, H⟩ := bA_ H
  by_cases c8 : t327 ≥ 0
  rotate_left
  ·rw [if_neg c8] at H
   have c8b0 : decide (0 ≤ t327) = false := decide_eq_false c8
   clear c8
   have H' := aM H
   clear H
   obtain ⟨hcz19_0, hcz19_1, hcz19_2, hcz19_3, hcz19_4, hcz19_5⟩ := swc6 BK326.out
   obtain ⟨hfz19_0, hfz19_1, hfz19_2, hfz19_3, hfz19_4, hfz19_5⟩ := swf6 BK326.out
   go_wp2_with ((go_at_call 75; (with_reducible refine (impl_linkOf.calls _ _ l0_0 _ _ l0_1 _ _ l0_2 _ _ l0_3 _ _ l0_4 _ _ l0_5 a1 x13_1 t327 _ (Kd.C_below HR0_0.out HB.out) HC0_0.out (Kd.C_below HR0_1.out HB.out) HC0_1.out (Kd.C_below HR0_2.out HB.out) HC0_2.out (Kd.C_below HR0_3.out HB.out) HC0_3.out (Kd.C_below HR0_4.out HB.out) HC0_4.out (Kd.C_below HR0_5.out HB.out) HC0_5.out A7.out).mono ?_); rintro e w20 ⟨rfl, hb⟩; replace HO_7 := aM (Kd.R_below HO_7.out hb); replace BK326 := aK BK326 hb; replace HB := aB HB hb; (try clear hb)))
   go_roundg k1
   case measure => have := HK1.out; omega
   case rel => exact ⟨(x7_1), (wrap64 (x13_1 + 1)), (by rfl), H', ⟨by have := HK1.out; omega⟩, ⟨by exact HO_7.out⟩, ⟨by exact BK326.out⟩, ⟨by repeat ((with_reducible exact HB.out))⟩⟩
  rw [if_pos c8] at H
  have c8b0 : decide (0 ≤ t327) = true := decide_eq_true c8
  clear c8
  obtain ⟨c9b0, H⟩ := iD H
  obtain ⟨c10b0, H⟩ := iD H
  obtain ⟨bq11, hbq11⟩ : ∃ b_ : Bool, b_ = (rdOf false l2 t327) := ⟨_, rfl⟩
  replace H : (if bq11 = true then (impl_neighbours.l0 k1 a1 l2 x7_1 (l0_0.length : Int) (wrap64 (x13_1 + 1)) l0_0 l0_1 l0_2 l0_3 l0_4 l0_5) else (if x7_1.length < 17592186044416 then (impl_neighbours.l0 k1 a1 l2 (x7_1 ++ [x13_1]) (l0_0.length : Int) (wrap64 (x13_1 + 1)) l0_0 l0_1 l0_2 l0_3 l0_4 l0_5) else (none))) = some r := by rw [← hbq11] at H; exact H
  have Nbq11 := aM hbq11
  clear hbq11
  by_cases c12 : bq11 = true
  ·subst c12
   rw [if_pos rfl] at H
   have H' := aM H
   clear H
   obtain ⟨hcz13_0, hcz13_1, hcz13_2, hcz13_3, hcz13_4, hcz13_5⟩ := swc6 BK326.out
   obtain ⟨hfz13_0, hfz13_1, hfz13_2, hfz13_3, hfz13_4, hfz13_5⟩ := swf6 BK326.out
   go_wp2_with ((go_at_call 75; (with_reducible refine (impl_linkOf.calls _ _ l0_0 _ _ l0_1 _ _ l0_2 _ _ l0_3 _ _ l0_4 _ _ l0_5 a1 x13_1 t327 _ (Kd.C_below HR0_0.out HB.out) HC0_0.out (Kd.C_below HR0_1.out HB.out) HC0_1.out (Kd.C_below HR0_2.out HB.out) HC0_2.out (Kd.C_below HR0_3.out HB.out) HC0_3.out (Kd.C_below HR0_4.out HB.out) HC0_4.out (Kd.C_below HR0_5.out HB.out) HC0_5.out A7.out).mono ?_); rintro e w14 ⟨rfl, hb⟩; replace HO_7 := aM (Kd.R_below HO_7.out hb); replace BK326 := aK BK326 hb; replace HB := aB HB hb; (try clear hb); have p328 : 0 ≤ (t327 : Int) := oD ‹_›; have q328 : t327 < (l2.length : Int) := oD ‹_›; obtain ⟨ad328, e328, hx328_0⟩ := Kd.at_bool HR2.out t327 p328 q328; (try rw [← Nbq11.out] at hx328_0); cases e328; replace hx328_0 := swB HB.out hx328_0; replace p328 := eq_true p328; replace q328 := eq_true q328))
   go_roundg k1
   case measure => have := HK1.out; omega
   case rel => exact ⟨(x7_1), (wrap64 (x13_1 + 1)), (by rfl), H', ⟨by have := HK1.out; omega⟩, ⟨by exact HO_7.out⟩, ⟨by exact BK326.out⟩, ⟨by repeat ((with_reducible exact HB.out))⟩⟩
  replace c12 := Bool.eq_false_iff.mpr c12
  subst c12
  rw [if_neg (show ¬ (false = true) by decide)] at H
  obtain ⟨c15, H⟩ := iP H
  have LMc15 := aM c15
  clear c15
  obtain ⟨y329, hy329⟩ : ∃ y_ : List Int, y_ = (x7_1 ++ [x13_1]) := ⟨_, rfl⟩
  replace H : (impl_neighbours.l0 k1 a1 l2 y329 (l0_0.length : Int) (wrap64 (x13_1 + 1)) l0_0 l0_1 l0_2 l0_3 l0_4 l0_5) = some r := by (rw [hy329]; with_reducible exact H)
  have Ny329 := aM hy329
  clear hy329
  have H' := aM H
  clear H
  obtain ⟨hcz16_0, hcz16_1, hcz16_2, hcz16_3, hcz16_4, hcz16_5⟩ := swc6 BK326.out
  obtain ⟨hfz16_0, hfz16_1, hfz16_2, hfz16_3, hfz16_4, hfz16_5⟩ := swf6 BK326.out
  go_wp2_with (first | (go_at_call 75; (with_reducible refine (impl_linkOf.calls _ _ l0_0 _ _ l0_1 _ _ l0_2 _ _ l0_3 _ _ l0_4 _ _ l0_5 a1 x13_1 t327 _ (Kd.C_below HR0_0.out HB.out) HC0_0.out (Kd.C_below HR0_1.out HB.out) HC0_1.out (Kd.C_below HR0_2.out HB.out) HC0_2.out (Kd.C_below HR0_3.out HB.out) HC0_3.out (Kd.C_below HR0_4.out HB.out) HC0_4.out (Kd.C_below HR0_5.out HB.out) HC0_5.out A7.out).mono ?_); rintro e w17 ⟨rfl, hb⟩; replace HO_7 := aM (Kd.R_below HO_7.out hb); replace BK326 := aK BK326 hb; replace HB := aB HB hb; (try clear hb); have p328 : 0 ≤ (t327 : Int) := oD ‹_›; have q328 : t327 < (l2.length : Int) := oD ‹_›; obtain ⟨ad328, e328, hx328_0⟩ := Kd.at_bool HR2.out t327 p328 q328; (try rw [← Nbq11.out] at hx328_0); cases e328; replace hx328_0 := swB HB.out hx328_0; replace p328 := eq_true p328; replace q328 := eq_true q328) | ((with_reducible refine gate_builtin (b := .append) (xs := #[.tmp 29, .tmp 31]) rfl ?_); at_builtin; refine Kd.R_append (Kd.int .i64) (w0 := w) w.heap.size rfl (.tmp 29) (.tmp 31) 24 3 (.int .i64 0) 8 rfl Tryz.underlying24 info3 rfl (by decide) (by omega) u7 x7_1 x13_1 [.int .i64 x13_1] (fun _ => True) (fun _ => False) rfl rfl ?aP (fun _ hk => hk.elim) ?aF ?aO ?aB ?aS ?aL ?_; (case aP => exact rfl); (case aB => exact HB.out); (case aF => exact (fun _ _ => trivial)); (case aO => exact HO_7.out); (case aS => exact (below_size HB.out)); (case aL => have := LMc15.out; omega); intro v330 w18 ho hb hg hat; rw [← Ny329.out] at ho; replace BK326 := aM (blk_grown BK326.out hg (Kd.R_ne HO_7.out BK326.out (by decide))); replace HB := aM (hb); have HO331 := aM (ho); clear HO_7; clear ho hb hg hat))
  go_roundg k1
  case measure => have := HK1.out; omega
  case rel => exact ⟨(y329), (wrap64 (x13_1 + 1)), (by rfl), H', ⟨by have := HK1.out; omega⟩, ⟨by exact HO331.out⟩, ⟨by exact BK326.out⟩, ⟨by repeat ((with_reducible exact HB.out))⟩⟩
end Go.Proofs.YtgibacfgjmdjdaaGreat.PFnExactIsStable
end
end
