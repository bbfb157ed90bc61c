/- WRITTEN BY A PROGRAM OF THIS SESSION (wip/xprint) OVER THE KIT's PRINT, FOR THIS CLAIM: for Go functions that the law reaches, one Lean function each and the proof that Go's call comes to its answer. No conditions but those that each theorem names. -/
import Derived.Test.YtcmkkoggdcjceaaPFnExactAtMostExx0
import Derived.Test.YtcmkkoggdcjceaaPFnExactAtMostExx2
import Derived.Test.YtcmkkoggdcjceaaPFnExactAtMostExx3
import Derived.Test.YtcmkkoggdcjceaaPFnExactAtMostExx4
import Derived.Test.YtcmkkoggdcjceaaPFnExactAtMostExx5
import Derived.Test.YtcmkkoggdcjceaaPFnExactAtMostExx6
namespace Go.Proofs.Ytcmkkoggdcjceaa.PFnExactAtMostEx
open Go.RowKit Go.Proofs.YtcmkkoggdcjceaaW.PrintWords Go.Proofs.YtcmkkoggdcjceaaW.PrintLast Go.Proofs.YtcmkkoggdcjceaaW.PrintMore
attribute [local go_sem] max2_int min2_int max_two min_two max_three min_three max_four min_four   -- for this text's walks alone
set_option linter.unusedVariables false
set_option linter.unusedSimpArgs false

/-! ### spec_AtMostEx: function 30 -/
theorem heap31 : Kd.Heap k31 := Kd.heap_fix (fun d hd => Kd.heap_iso _ (Kd.heap_pair (Kd.heap_int _) (Kd.heap_pair (Kd.heap_int _) (Kd.heap_slice 31 hd))))
theorem EXs.came {ok : Nat → Prop} {w : World} {A : Option Addr} {c : Nat} {xs : List S31} (h : Kd.C k31 w A xs.length xs) (hc : xs.length ≤ c) (hok : ∀ k, k < w.heap.size → ok k) : EXs ok w (.slice A xs.length c) xs := ⟨_, _, rfl, hc, Kd.F_mono (Kd.C_F heap31 h) hok⟩
open Classical in
noncomputable def spec_AtMostEx.f (k : Nat) (a0 : Int) (l1 : List S31) : Option (Int × Int × List S31 × Int) :=
  if l1.length > 4096 then some (0, 0, [], 2) else if l1.length > 6 then some (0, 0, [], 5) else
  (spec_l01In.f a0 (-1) 6).bind fun t => if t = true then ((spec_l05Fits.f k l1).bind fun u => if u = true then (if (-1 ≤ a0 ∧ a0 ≤ 100) ∧ ∀ x, x ∈ l1 → spec_l05Copy.f k x.f0 x.f1 x.f2 = some (x.f0, x.f1, x.f2) then ((spec_ExOK.f k (mostE l1 a0).f0 (mostE l1 a0).f1 (mostE l1 a0).f2).bind fun q => if q = true then some ((mostE l1 a0).f0, (mostE l1 a0).f1, (mostE l1 a0).f2, 0) else some (0, 0, [], 11)) else none) else some (0, 0, [], 1)) else some (0, 0, [], 5)
set_option maxHeartbeats 1600000 in
set_option maxRecDepth 100000 in
theorem spec_AtMostEx.calls (k : Nat) (a0 : Int) (A1 : Option Addr) (c1 : Nat) (l1 : List S31) (r1 r2 : Int) (r3 : List S31) (r4 : Int) (w : World) (hr1 : Kd.C k31 w A1 l1.length l1) (hc1 : l1.length ≤ c1) (h : spec_AtMostEx.f k a0 l1 = some (r1, r2, r3, r4)) :
    Calls Try.prog 30 #[.int .i64 a0, .slice A1 l1.length c1] w fun e w' => ∃ v2_ : Value, e = .returned (.tuple #[.agg #[.int .i64 r1, .int .i64 r2, v2_], .int .i64 r4]) ∧ Kd.V k31 31 w' w.heap.size (fun _ => True) v2_ r3 ∧ Below w.heap.size w w' := by
  have hu31 := Try.underlying31
  have HB := Aside0.mk (Below.refl w.heap.size w)
  have H1 := Aside0.mk (And.intro hr1 hc1)
  clear hr1 hc1
  unfold spec_AtMostEx.f at h
  by_cases h1 : l1.length > 4096
  · rw [if_pos h1] at h
    simp only [Option.some.injEq, Prod.mk.injEq] at h
    obtain ⟨rfl, rfl, rfl, rfl⟩ := h
    have h1b : decide (l1.length > 4096) = true := decide_eq_true h1
    go_enter Try.func30, Try.ntmps30
    go_wp2_with (first | ((with_reducible refine gate_dst (N := 4) rfl ?_); refine box_event ?hg (N := 4) ?hd (cs := #[.int .i64 0, .int .i64 0, .slice none 0 0]) (t := 31) ?hr ?_; (case hd => rfl); (case hg => rfl); (case hr => first | (go_simp; done) | (go_simp; rfl)); intro gr hgw wb_gr hbox hbb; have HR := Aside0.mk (And.intro hbox (show w.heap.size ≤ gr by rw [hgw]; exact HB.out.size)); have hbs := hbb; clear hgw hbox; have m0_ := Aside0.mk (HB.out.trans (hbs.mono HB.out.size)); clear HB; have HB := m0_; clear m0_; clear hbb hbs; have hz0 := (blk_cell HR.out.1 0).trans (show _ = some (.int .i64 0) from rfl); have hz1 := (blk_cell HR.out.1 1).trans (show _ = some (.int .i64 0) from rfl); have hz2 := (blk_cell HR.out.1 2).trans (show _ = some (.slice none 0 0) from rfl); have hzf0 := blk_frozen HR.out.1 0; have hzf1 := blk_frozen HR.out.1 1; have hzf2 := blk_frozen HR.out.1 2))
    have hput := box_put3 (a := .int .i64 0) (b := .int .i64 0) (v := .slice none 0 0) HR.out.1
    refine bodyPost_ret (results_ct rfl _ _ gr 31 #[.int .i64 0, .int .i64 0, .slice none 0 0] (0, 0) _ rfl hput.1 Try.underlying31 rfl (by kernel_rfl)) rfl ?_
    exact ⟨_, rfl, Kd.V_nil _ _ _ _ _, hput.2.below _ HB.out HR.out.2⟩
  rw [if_neg h1] at h
  have h1b : decide (l1.length > 4096) = false := decide_eq_false h1
  by_cases h2 : l1.length > 6
  · rw [if_pos h2] at h
    simp only [Option.some.injEq, Prod.mk.injEq] at h
    obtain ⟨rfl, rfl, rfl, rfl⟩ := h
    have h2b : decide (l1.length > 6) = true := decide_eq_true h2
    go_enter Try.func30, Try.ntmps30
    go_wp2_with (first | ((with_reducible refine gate_dst (N := 4) rfl ?_); refine box_event ?hg (N := 4) ?hd (cs := #[.int .i64 0, .int .i64 0, .slice none 0 0]) (t := 31) ?hr ?_; (case hd => rfl); (case hg => rfl); (case hr => first | (go_simp; done) | (go_simp; rfl)); intro gr hgw wb_gr hbox hbb; have HR := Aside0.mk (And.intro hbox (show w.heap.size ≤ gr by rw [hgw]; exact HB.out.size)); have hbs := hbb; clear hgw hbox; have m0_ := Aside0.mk (HB.out.trans (hbs.mono HB.out.size)); clear HB; have HB := m0_; clear m0_; clear hbb hbs; have hz0 := (blk_cell HR.out.1 0).trans (show _ = some (.int .i64 0) from rfl); have hz1 := (blk_cell HR.out.1 1).trans (show _ = some (.int .i64 0) from rfl); have hz2 := (blk_cell HR.out.1 2).trans (show _ = some (.slice none 0 0) from rfl); have hzf0 := blk_frozen HR.out.1 0; have hzf1 := blk_frozen HR.out.1 1; have hzf2 := blk_frozen HR.out.1 2))
    have hput := box_put3 (a := .int .i64 0) (b := .int .i64 0) (v := .slice none 0 0) HR.out.1
    refine bodyPost_ret (results_ct rfl _ _ gr 31 #[.int .i64 0, .int .i64 0, .slice none 0 0] (0, 0) _ rfl hput.1 Try.underlying31 rfl (by kernel_rfl)) rfl ?_
    exact ⟨_, rfl, Kd.V_nil _ _ _ _ _, hput.2.below _ HB.out HR.out.2⟩
  rw [if_neg h2] at h
  have h2b : decide (l1.length > 6) = false := decide_eq_false h2
  obtain ⟨t, hwi, h⟩ := Option.bind_eq_some_iff.1 h
  cases t with
  | false =>
    rw [if_neg Bool.false_ne_true] at h
    simp only [Option.some.injEq, Prod.mk.injEq] at h
    obtain ⟨rfl, rfl, rfl, rfl⟩ := h
    go_enter Try.func30, Try.ntmps30
    go_wp2_with (first | ((with_reducible refine gate_dst (N := 4) rfl ?_); refine box_event ?hg (N := 4) ?hd (cs := #[.int .i64 0, .int .i64 0, .slice none 0 0]) (t := 31) ?hr ?_; (case hd => rfl); (case hg => rfl); (case hr => first | (go_simp; done) | (go_simp; rfl)); intro gr hgw wb_gr hbox hbb; have HR := Aside0.mk (And.intro hbox (show w.heap.size ≤ gr by rw [hgw]; exact HB.out.size)); have hbs := hbb; clear hgw hbox; have m0_ := Aside0.mk (HB.out.trans (hbs.mono HB.out.size)); clear HB; have HB := m0_; clear m0_; clear hbb hbs; have hz0 := (blk_cell HR.out.1 0).trans (show _ = some (.int .i64 0) from rfl); have hz1 := (blk_cell HR.out.1 1).trans (show _ = some (.int .i64 0) from rfl); have hz2 := (blk_cell HR.out.1 2).trans (show _ = some (.slice none 0 0) from rfl); have hzf0 := blk_frozen HR.out.1 0; have hzf1 := blk_frozen HR.out.1 1; have hzf2 := blk_frozen HR.out.1 2) | (go_at_call 76; (with_reducible refine (spec_l01In.calls a0 (-1) 6 _ _ hwi).mono ?_); rintro e w1 ⟨rfl, hd⟩; have hb := hd.below; clear hd; clear hz0 hz1 hz2 hzf0 hzf1 hzf2; have m0_ := Aside0.mk (HB.out.trans (hb.mono HB.out.size)); have m1_ := Aside0.mk (And.intro (blk_below HR.out.1 hb) HR.out.2); clear HB HR; have HB := m0_; have HR := m1_; clear m0_ m1_; clear hb; have hz0 := (blk_cell HR.out.1 0).trans (show _ = some (.int .i64 0) from rfl); have hz1 := (blk_cell HR.out.1 1).trans (show _ = some (.int .i64 0) from rfl); have hz2 := (blk_cell HR.out.1 2).trans (show _ = some (.slice none 0 0) from rfl); have hzf0 := blk_frozen HR.out.1 0; have hzf1 := blk_frozen HR.out.1 1; have hzf2 := blk_frozen HR.out.1 2))
    have hput := box_put3 (a := .int .i64 0) (b := .int .i64 0) (v := .slice none 0 0) HR.out.1
    refine bodyPost_ret (results_ct rfl _ _ gr 31 #[.int .i64 0, .int .i64 0, .slice none 0 0] (0, 0) _ rfl hput.1 Try.underlying31 rfl (by kernel_rfl)) rfl ?_
    exact ⟨_, rfl, Kd.V_nil _ _ _ _ _, hput.2.below _ HB.out HR.out.2⟩
  | true =>
    rw [if_pos rfl] at h
    obtain ⟨u, har, h⟩ := Option.bind_eq_some_iff.1 h
    cases u with
    | false =>
      rw [if_neg Bool.false_ne_true] at h
      simp only [Option.some.injEq, Prod.mk.injEq] at h
      obtain ⟨rfl, rfl, rfl, rfl⟩ := h
      go_enter Try.func30, Try.ntmps30
      go_wp2_with (first | ((with_reducible refine gate_dst (N := 4) rfl ?_); refine box_event ?hg (N := 4) ?hd (cs := #[.int .i64 0, .int .i64 0, .slice none 0 0]) (t := 31) ?hr ?_; (case hd => rfl); (case hg => rfl); (case hr => first | (go_simp; done) | (go_simp; rfl)); intro gr hgw wb_gr hbox hbb; have HR := Aside0.mk (And.intro hbox (show w.heap.size ≤ gr by rw [hgw]; exact HB.out.size)); have hbs := hbb; clear hgw hbox; have m0_ := Aside0.mk (HB.out.trans (hbs.mono HB.out.size)); clear HB; have HB := m0_; clear m0_; clear hbb hbs; have hz0 := (blk_cell HR.out.1 0).trans (show _ = some (.int .i64 0) from rfl); have hz1 := (blk_cell HR.out.1 1).trans (show _ = some (.int .i64 0) from rfl); have hz2 := (blk_cell HR.out.1 2).trans (show _ = some (.slice none 0 0) from rfl); have hzf0 := blk_frozen HR.out.1 0; have hzf1 := blk_frozen HR.out.1 1; have hzf2 := blk_frozen HR.out.1 2) | (go_at_call 76; (with_reducible refine (spec_l01In.calls a0 (-1) 6 _ _ hwi).mono ?_); rintro e w1 ⟨rfl, hd⟩; have hb := hd.below; clear hd; clear hz0 hz1 hz2 hzf0 hzf1 hzf2; have m0_ := Aside0.mk (HB.out.trans (hb.mono HB.out.size)); have m1_ := Aside0.mk (And.intro (blk_below HR.out.1 hb) HR.out.2); clear HB HR; have HB := m0_; have HR := m1_; clear m0_ m1_; clear hb; have hz0 := (blk_cell HR.out.1 0).trans (show _ = some (.int .i64 0) from rfl); have hz1 := (blk_cell HR.out.1 1).trans (show _ = some (.int .i64 0) from rfl); have hz2 := (blk_cell HR.out.1 2).trans (show _ = some (.slice none 0 0) from rfl); have hzf0 := blk_frozen HR.out.1 0; have hzf1 := blk_frozen HR.out.1 1; have hzf2 := blk_frozen HR.out.1 2) | (go_at_call 77; (with_reducible refine (spec_l05Fits.calls k A1 c1 l1 _ _ (Kd.C_below H1.out.1 HB.out) H1.out.2 har).mono ?_); rintro e w2 ⟨rfl, hb⟩; clear hz0 hz1 hz2 hzf0 hzf1 hzf2; have m0_ := Aside0.mk (HB.out.trans (hb.mono HB.out.size)); have m1_ := Aside0.mk (And.intro (blk_below HR.out.1 hb) HR.out.2); clear HB HR; have HB := m0_; have HR := m1_; clear m0_ m1_; clear hb; have hz0 := (blk_cell HR.out.1 0).trans (show _ = some (.int .i64 0) from rfl); have hz1 := (blk_cell HR.out.1 1).trans (show _ = some (.int .i64 0) from rfl); have hz2 := (blk_cell HR.out.1 2).trans (show _ = some (.slice none 0 0) from rfl); have hzf0 := blk_frozen HR.out.1 0; have hzf1 := blk_frozen HR.out.1 1; have hzf2 := blk_frozen HR.out.1 2))
      have hput := box_put3 (a := .int .i64 0) (b := .int .i64 0) (v := .slice none 0 0) HR.out.1
      refine bodyPost_ret (results_ct rfl _ _ gr 31 #[.int .i64 0, .int .i64 0, .slice none 0 0] (0, 0) _ rfl hput.1 Try.underlying31 rfl (by kernel_rfl)) rfl ?_
      exact ⟨_, rfl, Kd.V_nil _ _ _ _ _, hput.2.below _ HB.out HR.out.2⟩
    | true =>
      rw [if_pos rfl] at h
      by_cases hq : (-1 ≤ a0 ∧ a0 ≤ 100) ∧ ∀ x, x ∈ l1 → spec_l05Copy.f k x.f0 x.f1 x.f2 = some (x.f0, x.f1, x.f2)
      · rw [if_pos hq] at h
        obtain ⟨q, hok, h⟩ := Option.bind_eq_some_iff.1 h
        have HQ := Aside0.mk hq
        have HT := Aside0.mk hok
        clear hq hok
        cases q with
        | false =>
          rw [if_neg Bool.false_ne_true] at h
          simp only [Option.some.injEq, Prod.mk.injEq] at h
          obtain ⟨rfl, rfl, rfl, rfl⟩ := h
          go_enter Try.func30, Try.ntmps30
          go_wp2_with (first | ((with_reducible refine gate_dst (N := 4) rfl ?_); refine box_event ?hg (N := 4) ?hd (cs := #[.int .i64 0, .int .i64 0, .slice none 0 0]) (t := 31) ?hr ?_; (case hd => rfl); (case hg => rfl); (case hr => first | (go_simp; done) | (go_simp; rfl)); intro gr hgw wb_gr hbox hbb; have HR := Aside0.mk (And.intro hbox (show w.heap.size ≤ gr by rw [hgw]; exact HB.out.size)); have hbs := hbb; clear hgw hbox; have m0_ := Aside0.mk (HB.out.trans (hbs.mono HB.out.size)); clear HB; have HB := m0_; clear m0_; clear hbb hbs; have hz0 := (blk_cell HR.out.1 0).trans (show _ = some (.int .i64 0) from rfl); have hz1 := (blk_cell HR.out.1 1).trans (show _ = some (.int .i64 0) from rfl); have hz2 := (blk_cell HR.out.1 2).trans (show _ = some (.slice none 0 0) from rfl); have hzf0 := blk_frozen HR.out.1 0; have hzf1 := blk_frozen HR.out.1 1; have hzf2 := blk_frozen HR.out.1 2) | (go_at_call 76; (with_reducible refine (spec_l01In.calls a0 (-1) 6 _ _ hwi).mono ?_); rintro e w1 ⟨rfl, hd⟩; have hb := hd.below; clear hd; clear hz0 hz1 hz2 hzf0 hzf1 hzf2; have m0_ := Aside0.mk (HB.out.trans (hb.mono HB.out.size)); have m1_ := Aside0.mk (And.intro (blk_below HR.out.1 hb) HR.out.2); clear HB HR; have HB := m0_; have HR := m1_; clear m0_ m1_; clear hb; have hz0 := (blk_cell HR.out.1 0).trans (show _ = some (.int .i64 0) from rfl); have hz1 := (blk_cell HR.out.1 1).trans (show _ = some (.int .i64 0) from rfl); have hz2 := (blk_cell HR.out.1 2).trans (show _ = some (.slice none 0 0) from rfl); have hzf0 := blk_frozen HR.out.1 0; have hzf1 := blk_frozen HR.out.1 1; have hzf2 := blk_frozen HR.out.1 2) | (go_at_call 77; (with_reducible refine (spec_l05Fits.calls k A1 c1 l1 _ _ (Kd.C_below H1.out.1 HB.out) H1.out.2 har).mono ?_); rintro e w2 ⟨rfl, hb⟩; clear hz0 hz1 hz2 hzf0 hzf1 hzf2; have m0_ := Aside0.mk (HB.out.trans (hb.mono HB.out.size)); have m1_ := Aside0.mk (And.intro (blk_below HR.out.1 hb) HR.out.2); clear HB HR; have HB := m0_; have HR := m1_; clear m0_ m1_; clear hb; have hz0 := (blk_cell HR.out.1 0).trans (show _ = some (.int .i64 0) from rfl); have hz1 := (blk_cell HR.out.1 1).trans (show _ = some (.int .i64 0) from rfl); have hz2 := (blk_cell HR.out.1 2).trans (show _ = some (.slice none 0 0) from rfl); have hzf0 := blk_frozen HR.out.1 0; have hzf1 := blk_frozen HR.out.1 1; have hzf2 := blk_frozen HR.out.1 2) | (go_at_call 78; (with_reducible refine (smost_any k l1 a0 _ _ (fun k_ => k_ ≠ gr) HQ.out.1.1 HQ.out.1.2 (EXs.move (EXs.came H1.out.1 H1.out.2 (fun k_ hk_ => Nat.ne_of_lt (Nat.lt_of_lt_of_le hk_ HR.out.2))) HB.out) (fun k_ hk_ => Nat.ne_of_gt (Nat.lt_of_lt_of_le (blk_lt HR.out.1) hk_)) HQ.out.2).mono ?_); rintro e w3 ⟨u_, rfl, hu, hb⟩; obtain ⟨Az, cz, rfl, lz, Fz⟩ := hu; have HZ := Aside0.mk (And.intro lz Fz); clear lz Fz; clear hz0 hz1 hz2 hzf0 hzf1 hzf2; have m0_ := Aside0.mk (HB.out.trans (hb.mono HB.out.size)); have m1_ := Aside0.mk (And.intro (blk_below HR.out.1 hb) HR.out.2); clear HB HR; have HB := m0_; have HR := m1_; clear m0_ m1_; clear hb; have hz0 := (blk_cell HR.out.1 0).trans (show _ = some (.int .i64 0) from rfl); have hz1 := (blk_cell HR.out.1 1).trans (show _ = some (.int .i64 0) from rfl); have hz2 := (blk_cell HR.out.1 2).trans (show _ = some (.slice none 0 0) from rfl); have hzf0 := blk_frozen HR.out.1 0; have hzf1 := blk_frozen HR.out.1 1; have hzf2 := blk_frozen HR.out.1 2) | ((with_reducible refine gate_dst (N := 6) rfl ?_); refine box_event ?hg (N := 6) ?hd (cs := #[.int .i64 0, .int .i64 0, .slice none 0 0]) (t := 31) ?hr ?_; (case hd => rfl); (case hg => rfl); (case hr => first | (go_simp; done) | (go_simp; rfl)); intro g7 hgw wb_g7 hbox hbb; have H7 := Aside0.mk (And.intro hbox (show gr ≠ g7 by rw [hgw]; exact Nat.ne_of_lt (blk_lt HR.out.1))); have H7b := Aside0.mk (show w.heap.size ≤ g7 by rw [hgw]; exact HB.out.size); have HZ3 := Aside0.mk (show Kd.F k31 wb_g7 (fun k_ => k_ ≠ gr ∧ k_ ≠ g7) Az (mostE l1 a0).f2.length (mostE l1 a0).f2 from Kd.F_below (Kd.F_mono (Kd.F_bound HZ.out.2) (fun k_ hk_ => ⟨hk_.1, by rw [hgw]; exact Nat.ne_of_lt hk_.2⟩)) hbb); clear hgw hbox; clear hz0 hz1 hz2 hzf0 hzf1 hzf2; have m0_ := Aside0.mk (HB.out.trans (hbb.mono HB.out.size)); have m1_ := Aside0.mk (And.intro (blk_below HR.out.1 hbb) HR.out.2); clear HB HR; have HB := m0_; have HR := m1_; clear m0_ m1_; clear hbb; have hz0 := (blk_cell HR.out.1 0).trans (show _ = some (.int .i64 0) from rfl); have hz1 := (blk_cell HR.out.1 1).trans (show _ = some (.int .i64 0) from rfl); have hz2 := (blk_cell HR.out.1 2).trans (show _ = some (.slice none 0 0) from rfl); have hzf0 := blk_frozen HR.out.1 0; have hzf1 := blk_frozen HR.out.1 1; have hzf2 := blk_frozen HR.out.1 2) | ((with_reducible refine gate_store (t := 31) (p := 6) rfl ?_); have hc0 := (blk_cell H7.out.1 0).trans (show _ = some (.int .i64 0) from rfl); have hc1 := (blk_cell H7.out.1 1).trans (show _ = some (.int .i64 0) from rfl); have hc2 := (blk_cell H7.out.1 2).trans (show _ = some (.slice none 0 0) from rfl); have hf0 := blk_frozen H7.out.1 0; have hf1 := blk_frozen H7.out.1 1; have hf2 := blk_frozen H7.out.1 2; refine store_event (t := 31) (p := 6) (v := ?vo) (w1 := ((wb_g7.setCell ⟨g7, 0, none⟩ (.int .i64 (mostE l1 a0).f0)).setCell ⟨g7, 1, none⟩ (.int .i64 (mostE l1 a0).f1)).setCell ⟨g7, 2, none⟩ (.slice Az (mostE l1 a0).f2.length cz)) ?hg ?ho ?hn ?hr ?_; (case ho => rfl); (case hg => rfl); (case hn => rfl); (case hr => first | (go_simp; done) | (go_simp; rfl)); clear hc0 hc1 hc2 hf0 hf1 hf2; intro w5 hw_; obtain ⟨hbk, hkb⟩ := box_put3 (a := .int .i64 (mostE l1 a0).f0) (b := .int .i64 (mostE l1 a0).f1) (v := (.slice Az (mostE l1 a0).f2.length cz)) H7.out.1; rw [← hw_] at hbk hkb; clear hw_; clear hz0 hz1 hz2 hzf0 hzf1 hzf2; have HZ4 := Aside0.mk (show Kd.F k31 w5 (fun k_ => k_ ≠ gr ∧ k_ ≠ g7) Az (mostE l1 a0).f2.length (mostE l1 a0).f2 from Kd.F_kept HZ3.out hkb.kept (fun k_ hk_ hs_ => hk_.2 hs_)); have H7c := Aside0.mk hbk; have m0_ := Aside0.mk (hkb.below _ HB.out H7b.out); have m1_ := Aside0.mk (And.intro (blk_kept HR.out.1 hkb.kept (fun h_ => H7.out.2 h_)) HR.out.2); clear HB HR; have HB := m0_; have HR := m1_; clear m0_ m1_; clear hkb hbk; have hz0 := (blk_cell HR.out.1 0).trans (show _ = some (.int .i64 0) from rfl); have hz1 := (blk_cell HR.out.1 1).trans (show _ = some (.int .i64 0) from rfl); have hz2 := (blk_cell HR.out.1 2).trans (show _ = some (.slice none 0 0) from rfl); have hzf0 := blk_frozen HR.out.1 0; have hzf1 := blk_frozen HR.out.1 1; have hzf2 := blk_frozen HR.out.1 2; have hs0 := (blk_cell H7c.out 0).trans (show _ = some (.int .i64 (mostE l1 a0).f0) from rfl); have hs1 := (blk_cell H7c.out 1).trans (show _ = some (.int .i64 (mostE l1 a0).f1) from rfl); have hs2 := (blk_cell H7c.out 2).trans (show _ = some (.slice Az (mostE l1 a0).f2.length cz) from rfl)) | (go_at_call 57; (with_reducible refine (spec_ExOK.calls k (mostE l1 a0).f0 (mostE l1 a0).f1 Az cz (mostE l1 a0).f2 _ _ (Kd.F_now HZ4.out) HZ.out.1 HT.out).mono ?_); rintro e w6 ⟨rfl, hb⟩; clear hz0 hz1 hz2 hzf0 hzf1 hzf2; clear hs0 hs1 hs2; have m0_ := Aside0.mk (HB.out.trans (hb.mono HB.out.size)); have m1_ := Aside0.mk (And.intro (blk_below HR.out.1 hb) HR.out.2); have m2_ := Aside0.mk (blk_below H7c.out hb); have m3_ := Aside0.mk (Kd.F_below HZ4.out hb); clear HB HR H7c HZ4; have HB := m0_; have HR := m1_; have H7c := m2_; have HZ4 := m3_; clear m0_ m1_ m2_ m3_; clear hb; have hz0 := (blk_cell HR.out.1 0).trans (show _ = some (.int .i64 0) from rfl); have hz1 := (blk_cell HR.out.1 1).trans (show _ = some (.int .i64 0) from rfl); have hz2 := (blk_cell HR.out.1 2).trans (show _ = some (.slice none 0 0) from rfl); have hzf0 := blk_frozen HR.out.1 0; have hzf1 := blk_frozen HR.out.1 1; have hzf2 := blk_frozen HR.out.1 2; have hs0 := (blk_cell H7c.out 0).trans (show _ = some (.int .i64 (mostE l1 a0).f0) from rfl); have hs1 := (blk_cell H7c.out 1).trans (show _ = some (.int .i64 (mostE l1 a0).f1) from rfl); have hs2 := (blk_cell H7c.out 2).trans (show _ = some (.slice Az (mostE l1 a0).f2.length cz) from rfl)))
          have hput := box_put3 (a := .int .i64 0) (b := .int .i64 0) (v := .slice none 0 0) HR.out.1
          refine bodyPost_ret (results_ct rfl _ _ gr 31 #[.int .i64 0, .int .i64 0, .slice none 0 0] (0, 0) _ rfl hput.1 Try.underlying31 rfl (by kernel_rfl)) rfl ?_
          exact ⟨_, rfl, Kd.V_nil _ _ _ _ _, hput.2.below _ HB.out HR.out.2⟩
        | true =>
          rw [if_pos rfl] at h
          simp only [Option.some.injEq, Prod.mk.injEq] at h
          obtain ⟨rfl, rfl, rfl, rfl⟩ := h
          go_enter Try.func30, Try.ntmps30
          go_wp2_with (first | ((with_reducible refine gate_dst (N := 4) rfl ?_); refine box_event ?hg (N := 4) ?hd (cs := #[.int .i64 0, .int .i64 0, .slice none 0 0]) (t := 31) ?hr ?_; (case hd => rfl); (case hg => rfl); (case hr => first | (go_simp; done) | (go_simp; rfl)); intro gr hgw wb_gr hbox hbb; have HR := Aside0.mk (And.intro hbox (show w.heap.size ≤ gr by rw [hgw]; exact HB.out.size)); have hbs := hbb; clear hgw hbox; have m0_ := Aside0.mk (HB.out.trans (hbs.mono HB.out.size)); clear HB; have HB := m0_; clear m0_; clear hbb hbs; have hz0 := (blk_cell HR.out.1 0).trans (show _ = some (.int .i64 0) from rfl); have hz1 := (blk_cell HR.out.1 1).trans (show _ = some (.int .i64 0) from rfl); have hz2 := (blk_cell HR.out.1 2).trans (show _ = some (.slice none 0 0) from rfl); have hzf0 := blk_frozen HR.out.1 0; have hzf1 := blk_frozen HR.out.1 1; have hzf2 := blk_frozen HR.out.1 2) | (go_at_call 76; (with_reducible refine (spec_l01In.calls a0 (-1) 6 _ _ hwi).mono ?_); rintro e w1 ⟨rfl, hd⟩; have hb := hd.below; clear hd; clear hz0 hz1 hz2 hzf0 hzf1 hzf2; have m0_ := Aside0.mk (HB.out.trans (hb.mono HB.out.size)); have m1_ := Aside0.mk (And.intro (blk_below HR.out.1 hb) HR.out.2); clear HB HR; have HB := m0_; have HR := m1_; clear m0_ m1_; clear hb; have hz0 := (blk_cell HR.out.1 0).trans (show _ = some (.int .i64 0) from rfl); have hz1 := (blk_cell HR.out.1 1).trans (show _ = some (.int .i64 0) from rfl); have hz2 := (blk_cell HR.out.1 2).trans (show _ = some (.slice none 0 0) from rfl); have hzf0 := blk_frozen HR.out.1 0; have hzf1 := blk_frozen HR.out.1 1; have hzf2 := blk_frozen HR.out.1 2) | (go_at_call 77; (with_reducible refine (spec_l05Fits.calls k A1 c1 l1 _ _ (Kd.C_below H1.out.1 HB.out) H1.out.2 har).mono ?_); rintro e w2 ⟨rfl, hb⟩; clear hz0 hz1 hz2 hzf0 hzf1 hzf2; have m0_ := Aside0.mk (HB.out.trans (hb.mono HB.out.size)); have m1_ := Aside0.mk (And.intro (blk_below HR.out.1 hb) HR.out.2); clear HB HR; have HB := m0_; have HR := m1_; clear m0_ m1_; clear hb; have hz0 := (blk_cell HR.out.1 0).trans (show _ = some (.int .i64 0) from rfl); have hz1 := (blk_cell HR.out.1 1).trans (show _ = some (.int .i64 0) from rfl); have hz2 := (blk_cell HR.out.1 2).trans (show _ = some (.slice none 0 0) from rfl); have hzf0 := blk_frozen HR.out.1 0; have hzf1 := blk_frozen HR.out.1 1; have hzf2 := blk_frozen HR.out.1 2) | (go_at_call 78; (with_reducible refine (smost_any k l1 a0 _ _ (fun k_ => k_ ≠ gr) HQ.out.1.1 HQ.out.1.2 (EXs.move (EXs.came H1.out.1 H1.out.2 (fun k_ hk_ => Nat.ne_of_lt (Nat.lt_of_lt_of_le hk_ HR.out.2))) HB.out) (fun k_ hk_ => Nat.ne_of_gt (Nat.lt_of_lt_of_le (blk_lt HR.out.1) hk_)) HQ.out.2).mono ?_); rintro e w3 ⟨u_, rfl, hu, hb⟩; obtain ⟨Az, cz, rfl, lz, Fz⟩ := hu; have HZ := Aside0.mk (And.intro lz Fz); clear lz Fz; clear hz0 hz1 hz2 hzf0 hzf1 hzf2; have m0_ := Aside0.mk (HB.out.trans (hb.mono HB.out.size)); have m1_ := Aside0.mk (And.intro (blk_below HR.out.1 hb) HR.out.2); clear HB HR; have HB := m0_; have HR := m1_; clear m0_ m1_; clear hb; have hz0 := (blk_cell HR.out.1 0).trans (show _ = some (.int .i64 0) from rfl); have hz1 := (blk_cell HR.out.1 1).trans (show _ = some (.int .i64 0) from rfl); have hz2 := (blk_cell HR.out.1 2).trans (show _ = some (.slice none 0 0) from rfl); have hzf0 := blk_frozen HR.out.1 0; have hzf1 := blk_frozen HR.out.1 1; have hzf2 := blk_frozen HR.out.1 2) | ((with_reducible refine gate_dst (N := 6) rfl ?_); refine box_event ?hg (N := 6) ?hd (cs := #[.int .i64 0, .int .i64 0, .slice none 0 0]) (t := 31) ?hr ?_; (case hd => rfl); (case hg => rfl); (case hr => first | (go_simp; done) | (go_simp; rfl)); intro g7 hgw wb_g7 hbox hbb; have H7 := Aside0.mk (And.intro hbox (show gr ≠ g7 by rw [hgw]; exact Nat.ne_of_lt (blk_lt HR.out.1))); have H7b := Aside0.mk (show w.heap.size ≤ g7 by rw [hgw]; exact HB.out.size); have HZ3 := Aside0.mk (show Kd.F k31 wb_g7 (fun k_ => k_ ≠ gr ∧ k_ ≠ g7) Az (mostE l1 a0).f2.length (mostE l1 a0).f2 from Kd.F_below (Kd.F_mono (Kd.F_bound HZ.out.2) (fun k_ hk_ => ⟨hk_.1, by rw [hgw]; exact Nat.ne_of_lt hk_.2⟩)) hbb); clear hgw hbox; clear hz0 hz1 hz2 hzf0 hzf1 hzf2; have m0_ := Aside0.mk (HB.out.trans (hbb.mono HB.out.size)); have m1_ := Aside0.mk (And.intro (blk_below HR.out.1 hbb) HR.out.2); clear HB HR; have HB := m0_; have HR := m1_; clear m0_ m1_; clear hbb; have hz0 := (blk_cell HR.out.1 0).trans (show _ = some (.int .i64 0) from rfl); have hz1 := (blk_cell HR.out.1 1).trans (show _ = some (.int .i64 0) from rfl); have hz2 := (blk_cell HR.out.1 2).trans (show _ = some (.slice none 0 0) from rfl); have hzf0 := blk_frozen HR.out.1 0; have hzf1 := blk_frozen HR.out.1 1; have hzf2 := blk_frozen HR.out.1 2) | ((with_reducible refine gate_store (t := 31) (p := 6) rfl ?_); have hc0 := (blk_cell H7.out.1 0).trans (show _ = some (.int .i64 0) from rfl); have hc1 := (blk_cell H7.out.1 1).trans (show _ = some (.int .i64 0) from rfl); have hc2 := (blk_cell H7.out.1 2).trans (show _ = some (.slice none 0 0) from rfl); have hf0 := blk_frozen H7.out.1 0; have hf1 := blk_frozen H7.out.1 1; have hf2 := blk_frozen H7.out.1 2; refine store_event (t := 31) (p := 6) (v := ?vo) (w1 := ((wb_g7.setCell ⟨g7, 0, none⟩ (.int .i64 (mostE l1 a0).f0)).setCell ⟨g7, 1, none⟩ (.int .i64 (mostE l1 a0).f1)).setCell ⟨g7, 2, none⟩ (.slice Az (mostE l1 a0).f2.length cz)) ?hg ?ho ?hn ?hr ?_; (case ho => rfl); (case hg => rfl); (case hn => rfl); (case hr => first | (go_simp; done) | (go_simp; rfl)); clear hc0 hc1 hc2 hf0 hf1 hf2; intro w5 hw_; obtain ⟨hbk, hkb⟩ := box_put3 (a := .int .i64 (mostE l1 a0).f0) (b := .int .i64 (mostE l1 a0).f1) (v := (.slice Az (mostE l1 a0).f2.length cz)) H7.out.1; rw [← hw_] at hbk hkb; clear hw_; clear hz0 hz1 hz2 hzf0 hzf1 hzf2; have HZ4 := Aside0.mk (show Kd.F k31 w5 (fun k_ => k_ ≠ gr ∧ k_ ≠ g7) Az (mostE l1 a0).f2.length (mostE l1 a0).f2 from Kd.F_kept HZ3.out hkb.kept (fun k_ hk_ hs_ => hk_.2 hs_)); have H7c := Aside0.mk hbk; have m0_ := Aside0.mk (hkb.below _ HB.out H7b.out); have m1_ := Aside0.mk (And.intro (blk_kept HR.out.1 hkb.kept (fun h_ => H7.out.2 h_)) HR.out.2); clear HB HR; have HB := m0_; have HR := m1_; clear m0_ m1_; clear hkb hbk; have hz0 := (blk_cell HR.out.1 0).trans (show _ = some (.int .i64 0) from rfl); have hz1 := (blk_cell HR.out.1 1).trans (show _ = some (.int .i64 0) from rfl); have hz2 := (blk_cell HR.out.1 2).trans (show _ = some (.slice none 0 0) from rfl); have hzf0 := blk_frozen HR.out.1 0; have hzf1 := blk_frozen HR.out.1 1; have hzf2 := blk_frozen HR.out.1 2; have hs0 := (blk_cell H7c.out 0).trans (show _ = some (.int .i64 (mostE l1 a0).f0) from rfl); have hs1 := (blk_cell H7c.out 1).trans (show _ = some (.int .i64 (mostE l1 a0).f1) from rfl); have hs2 := (blk_cell H7c.out 2).trans (show _ = some (.slice Az (mostE l1 a0).f2.length cz) from rfl)) | (go_at_call 57; (with_reducible refine (spec_ExOK.calls k (mostE l1 a0).f0 (mostE l1 a0).f1 Az cz (mostE l1 a0).f2 _ _ (Kd.F_now HZ4.out) HZ.out.1 HT.out).mono ?_); rintro e w6 ⟨rfl, hb⟩; clear hz0 hz1 hz2 hzf0 hzf1 hzf2; clear hs0 hs1 hs2; have m0_ := Aside0.mk (HB.out.trans (hb.mono HB.out.size)); have m1_ := Aside0.mk (And.intro (blk_below HR.out.1 hb) HR.out.2); have m2_ := Aside0.mk (blk_below H7c.out hb); have m3_ := Aside0.mk (Kd.F_below HZ4.out hb); clear HB HR H7c HZ4; have HB := m0_; have HR := m1_; have H7c := m2_; have HZ4 := m3_; clear m0_ m1_ m2_ m3_; clear hb; have hz0 := (blk_cell HR.out.1 0).trans (show _ = some (.int .i64 0) from rfl); have hz1 := (blk_cell HR.out.1 1).trans (show _ = some (.int .i64 0) from rfl); have hz2 := (blk_cell HR.out.1 2).trans (show _ = some (.slice none 0 0) from rfl); have hzf0 := blk_frozen HR.out.1 0; have hzf1 := blk_frozen HR.out.1 1; have hzf2 := blk_frozen HR.out.1 2; have hs0 := (blk_cell H7c.out 0).trans (show _ = some (.int .i64 (mostE l1 a0).f0) from rfl); have hs1 := (blk_cell H7c.out 1).trans (show _ = some (.int .i64 (mostE l1 a0).f1) from rfl); have hs2 := (blk_cell H7c.out 2).trans (show _ = some (.slice Az (mostE l1 a0).f2.length cz) from rfl)))
          have hput := box_put3 (a := .int .i64 (mostE l1 a0).f0) (b := .int .i64 (mostE l1 a0).f1) (v := .slice Az (mostE l1 a0).f2.length cz) HR.out.1
          refine bodyPost_ret (results_ct rfl _ _ gr 31 #[.int .i64 (mostE l1 a0).f0, .int .i64 (mostE l1 a0).f1, .slice Az (mostE l1 a0).f2.length cz] (0, 0) _ rfl hput.1 Try.underlying31 rfl (by kernel_rfl)) rfl ?_
          exact ⟨_, rfl, Kd.V_mk HZ.out.1 (Kd.F_mono (Kd.F_kept HZ4.out hput.2.kept (fun k_ hk_ hs_ => hk_.1 hs_)) (fun _ _ => trivial)), hput.2.below _ HB.out HR.out.2⟩
      · rw [if_neg hq] at h
        cases h

/-! ### laws_toEx: function 13 -/
-- stands with laws.toExS

/-! ### laws_markExS: function 34 -/
/-! ### Trees whose rows have blocks of their own at every level -/
def sliceS {α : Type} (e : Nat) (d : Kd α) : Kd (List α) where
  sz := 1
  E := e :: d.E
  K := (Kd.slice e d).K
  M := fun w base ok xs cs => ∃ v, cs = [v] ∧ Kd.S d e w base ok v xs
  K_len := (Kd.slice e d).K_len
  K_one := (Kd.slice e d).K_one
  K_below := (Kd.slice e d).K_below
  K_of_M := by
    rintro w base ok x cs ⟨v, rfl, h⟩
    obtain ⟨A, c, rfl, hl, hr⟩ := Kd.S_reads h
    exact ⟨A, c, rfl, hl, hr⟩
  M_mono := by
    rintro w base ok ok' x cs hok ⟨v, rfl, h⟩
    exact ⟨v, rfl, Kd.S_mono h hok⟩
  M_bound := by
    rintro w base ok x cs ⟨v, rfl, h⟩
    exact ⟨v, rfl, Kd.S_bound h⟩
  M_move := by
    rintro w w1 base ok x cs hm ⟨v, rfl, h⟩
    exact ⟨v, rfl, Kd.S_move h hm⟩
  M_lower := by
    rintro w base base' ok x cs hb ⟨v, rfl, h⟩
    exact ⟨v, rfl, Kd.S_lower h hb⟩
theorem S_imp {α : Type} {d d' : Kd α} (hs : d.sz = d'.sz) (h : ∀ w base ok x cs, d.M w base ok x cs → d'.M w base ok x cs) {e : Nat} {w : World} {base : Nat} {ok : Nat → Prop} {v : Value} {xs : List α} (hr : Kd.S d e w base ok v xs) : Kd.S d' e w base ok v xs := by
  obtain ⟨f, hr⟩ := hr
  exact ⟨f, Kd.R_imp (d := Kd.tag f d) (d' := Kd.tag f d') hs (fun w base ok x cs hp => h w base _ x.1 cs hp) hr⟩
theorem mono_sliceS {α β : Type} (e : Nat) {G : Kd α → Kd β} (hG : Kd.Mono G) : Kd.Mono (fun d => sliceS e (G d)) := by
  refine ⟨fun _ _ _ => rfl, (Kd.mono_slice e hG).K, ?_⟩
  rintro d d' hs h w base ok x cs ⟨v, rfl, hr⟩
  exact ⟨v, rfl, S_imp (hG.sz d d' hs) (hG.M d d' hs h) hr⟩
theorem sub_sliceS {α β : Type} {E : List Nat} (e : Nat) {G : Kd α → Kd β} (he : e ∈ E) (hG : Kd.Sub G E) : Kd.Sub (fun d => sliceS e (G d)) E := Kd.sub_slice e he hG
theorem fix_S_back {α : Type} {F : Kd α → Kd α} {sz : Nat} {E : List Nat} {hs : ∀ n, (Kd.upto F sz E n).sz = sz} {hE : ∀ n q, q ∈ (Kd.upto F sz E n).E → q ∈ E} (hm : Kd.Mono F) {e : Nat} {w : World} {base : Nat} {ok : Nat → Prop} {v : Value} {xs : List α} (h : Kd.S (Kd.fix F sz E hs hE) e w base ok v xs) : ∃ n, Kd.S (Kd.upto F sz E n) e w base ok v xs := by
  obtain ⟨f, h0, inner, ho, hr⟩ := h
  obtain ⟨N, hN⟩ := Kd.reps_bounded (R := fun n p c => (Kd.tag f (Kd.upto F sz E n)).M w base (fun k => ok k ∧ some k ≠ v.ownBlock) p c) (fun n m p c hnm hp => Kd.upto_M_le hm hs hnm hp) hr
  have hsN : (Kd.tag f (Kd.upto F sz E N)).sz = sz := hs N
  refine ⟨N, f, h0, inner, ?_, ?_⟩
  · rw [hsN]; exact ho
  · rw [hsN]; exact hN
def FS31 (d : Kd S31) : Kd S31 := Kd.iso (Kd.pair (Kd.int .i64) (Kd.pair (Kd.int .i64) (sliceS 31 d))) (fun x : S31 => (x.f0, x.f1, x.f2))
theorem monoS31 : Kd.Mono FS31 := Kd.mono_iso _ (Kd.mono_pair (Kd.mono_const _) (Kd.mono_pair (Kd.mono_const _) (mono_sliceS 31 Kd.mono_id)))
theorem subS31 : Kd.Sub FS31 [31] := Kd.sub_iso _ (Kd.sub_pair (Kd.sub_const _ (by decide)) (Kd.sub_pair (Kd.sub_const _ (by decide)) (sub_sliceS 31 (by decide) Kd.sub_id)))
theorem szS31 : ∀ n, (Kd.upto FS31 3 [31] n).sz = 3 := Kd.upto_sz (fun _ => rfl)
def kS31 : Kd S31 := Kd.fix FS31 3 [31] szS31 (Kd.upto_E subS31)
theorem kS31_openM {w : World} {base : Nat} {ok : Nat → Prop} {x : S31} {cs : List Value} (h : kS31.M w base ok x cs) : ∃ v2, cs = [.int .i64 x.f0, .int .i64 x.f1, v2] ∧ Kd.S kS31 31 w base ok v2 x.f2 := by
  obtain ⟨n, h⟩ := h
  cases n with
  | zero => exact h.elim
  | succ n =>
    obtain ⟨_, _, rfl, rfl, ⟨_, _, rfl, rfl, ⟨v2, rfl, g2⟩⟩⟩ := h
    exact ⟨v2, rfl, S_imp (d' := kS31) (szS31 n) (fun w base ok x cs hp => ⟨n, hp⟩) g2⟩
theorem kS31_mkM (w : World) (base : Nat) (ok : Nat → Prop) (x : S31) {v2 : Value} (g2 : Kd.S kS31 31 w base ok v2 x.f2) : kS31.M w base ok x [.int .i64 x.f0, .int .i64 x.f1, v2] := by
  obtain ⟨n2, q2⟩ := fix_S_back monoS31 g2
  exact ⟨n2 + 1, ⟨[.int .i64 x.f0], [.int .i64 x.f1, v2], rfl, rfl, ⟨[.int .i64 x.f1], [v2], rfl, rfl, ⟨v2, rfl, q2⟩⟩⟩⟩
theorem kS31_upto_K : ∀ n {w : World} {x : S31} {cs : List Value}, (Kd.upto FS31 3 [31] n).K w x cs → (Kd.upto F31 3 [31] n).K w x cs := by
  intro n
  induction n with
  | zero => exact fun h => h
  | succ n ih =>
    rintro w x cs ⟨c0, c1, rfl, h0, c2, c3, rfl, h1, A, c, rfl, hl, hc⟩
    exact ⟨c0, _, rfl, h0, c2, _, rfl, h1, A, c, rfl, hl, Kd.C_imp ((szS31 n).trans (sz31 n).symm) (fun w x cs h => ih h) hc⟩
theorem kS31_K {w : World} {x : S31} {cs : List Value} (h : kS31.K w x cs) : k31.K w x cs := by
  obtain ⟨n, h⟩ := h
  exact ⟨n, kS31_upto_K n h⟩
theorem kS31_C {w : World} {A : Option Addr} {n : Nat} {xs : List S31} (h : Kd.C kS31 w A n xs) : Kd.C k31 w A n xs := Kd.C_imp (d := kS31) (d' := k31) rfl (fun _ _ _ h => kS31_K h) h
theorem kS31_F {w : World} {ok : Nat → Prop} {A : Option Addr} {n : Nat} {xs : List S31} (h : Kd.F kS31 w ok A n xs) : Kd.F k31 w ok A n xs := Kd.F_imp h (fun _ h => kS31_C h)

theorem S_tell {α β : Type} {d : Kd α} {d' : Kd β} {e e' b : Nat} {W w1 : World} {ok ok' : Nat → Prop} {v u : Value} {ys : List α} {xs : List β} (hb : Below W.heap.size W w1) (h : Kd.S d e w1 W.heap.size ok v ys) : ∃ N, Kd.S d e w1 W.heap.size (fun k => ok k ∧ N ≤ k) v ys ∧ (Kd.S d' e' W b ok' u xs → Kd.S d' e' w1 b (fun k => ok' k ∧ k < N) u xs) :=
  ⟨W.heap.size, Kd.S_mono (Kd.S_bound h) (fun _ hk => ⟨hk.1, hk.2.1⟩), fun h1 => Kd.S_old h1 hb⟩
/-! ### marks in a tree of one's own -/
mutual
def nT : S31 → Nat
  | ⟨_, _, l⟩ => 1 + nL l
def nL : List S31 → Nat
  | [] => 0
  | x :: r => nT x + nL r
end
mutual
def mkT : S31 → Int → S31
  | ⟨_, _, l⟩, a => ⟨a, a + 1, mkL l (a + 2)⟩
def mkL : List S31 → Int → List S31
  | [], _ => []
  | x :: r, a => mkT x a :: mkL r (a + 2 * nT x)
end
theorem nT_eq (x : S31) : nT x = 1 + nL x.f2 := by
  obtain ⟨a, b, l⟩ := x
  rw [nT]
theorem mkT_eq (x : S31) (a : Int) : mkT x a = ⟨a, a + 1, mkL x.f2 (a + 2)⟩ := by
  obtain ⟨b, c, l⟩ := x
  rw [mkT]
theorem mkL_length : ∀ (l : List S31) (a : Int), (mkL l a).length = l.length
  | [], _ => by rw [mkL]
  | x :: r, a => by rw [mkL, List.length_cons, List.length_cons, mkL_length r]
theorem nL_take : ∀ (l : List S31) (i : Nat) (x : S31), l[i]? = some x → nL (l.take (i + 1)) = nL (l.take i) + nT x
  | [], i, x, h => by cases h
  | y :: r, 0, x, h => by
    obtain rfl : y = x := by simpa using h
    simp [nL]
  | y :: r, i + 1, x, h => by
    have := nL_take r i x (by simpa using h)
    rw [List.take_succ_cons, List.take_succ_cons, nL, nL, this]
    omega
theorem nL_take_le : ∀ (l : List S31) (i : Nat), nL (l.take i) ≤ nL l
  | [], i => by simp [nL]
  | y :: r, 0 => by simp [nL]
  | y :: r, i + 1 => by
    rw [List.take_succ_cons, nL, nL]
    have := nL_take_le r i
    omega
theorem mkL_at : ∀ (l : List S31) (a : Int) (i : Nat) (x : S31), l[i]? = some x → (mkL l a)[i]? = some (mkT x (a + 2 * nL (l.take i)))
  | [], _, i, x, h => by cases h
  | y :: r, a, 0, x, h => by
    obtain rfl : y = x := by simpa using h
    rw [mkL]
    simp [nL]
  | y :: r, a, i + 1, x, h => by
    rw [mkL, List.getElem?_cons_succ, mkL_at r _ i x (by simpa using h), List.take_succ_cons, nL]
    congr 2
    omega
/-- a tree's rows, each with a block of its own; P: where they lie -/
inductive OT : World → (Nat → Prop) → Value → List S31 → Prop
  | nil (w : World) (P : Nat → Prop) (A : Option Addr) (c : Nat) : OT w P (.slice A 0 c) []
  | row {w : World} {P : Nat → Prop} {g cap : Nat} {xs : List S31} (cur : Array Value) (f : Nat → Nat) (vs : Nat → Value) (hp : 0 < xs.length) (hc : xs.length ≤ cap) (hm : xs.length ≤ 9223372036854775807) (hg : P g) (hb : w.heap[g]? = some (.cells cur 31 (0, 0)))
      (hcell : ∀ j x, xs[j]? = some x → cur[j * 3]? = some (.int .i64 x.f0) ∧ cur[j * 3 + 1]? = some (.int .i64 x.f1) ∧ cur[j * 3 + 2]? = some (vs j))
      (hk : ∀ j x, xs[j]? = some x → OT w (fun k => (P k ∧ k ≠ g) ∧ f k = j) (vs j) x.f2) : OT w P (.slice (some ⟨g, 0, none⟩) xs.length cap) xs
theorem OT.move {w : World} {P : Nat → Prop} {v : Value} {xs : List S31} (h : OT w P v xs) : ∀ {w1 : World}, (∀ k, P k → k < w.heap.size → w1.heap[k]? = w.heap[k]?) → OT w1 P v xs := by
  induction h with
  | nil => exact fun _ => .nil _ _ _ _
  | row cur f vs hp hc hm hg hb hcell hk ih =>
    intro w1 hmv
    exact .row cur f vs hp hc hm hg ((hmv _ hg (blk_lt hb)).trans hb) hcell (fun j x hx => ih j x hx (fun k hk hlt => hmv k hk.1.1 hlt))
theorem OT.kept {w w1 : World} {P S : Nat → Prop} {v : Value} {xs : List S31} (h : OT w P v xs) (hk : Kept w w1 S) (hn : ∀ k, P k → ¬ S k) : OT w1 P v xs := h.move (fun k hp hlt => hk.2 k hlt (hn k hp))
theorem OT.reads {w : World} {P : Nat → Prop} {v : Value} {xs : List S31} (h : OT w P v xs) : ∃ A c, v = .slice A xs.length c ∧ xs.length ≤ c ∧ Kd.C k31 w A xs.length xs := by
  induction h with
  | nil P A c => exact ⟨A, c, rfl, by simp, rfl, by simp, fun h => absurd h (by simp)⟩
  | @row P g cap xs cur f vs hp hc hm hg hb hcell hk ih =>
    refine ⟨_, _, rfl, hc, rfl, hm, fun _ => ⟨_, rfl, fun j x hx => ?_⟩⟩
    obtain ⟨h0, h1, h2⟩ := hcell j x hx
    obtain ⟨A, c, ev, hlc, hC⟩ := ih j x hx
    rw [ev] at h2
    refine ⟨[.int .i64 x.f0, .int .i64 x.f1, .slice A x.f2.length c], rfl, k31_mk w x hlc hC, fun i u hu => ?_⟩
    rw [add_at, Nat.zero_add, blk_cell hb]
    show cur[j * 3 + i]? = some u
    match i, hu with
    | 0, hu => cases hu; exact h0
    | 1, hu => cases hu; exact h1
    | 2, hu => cases hu; exact h2
theorem OT.foot {w : World} {P : Nat → Prop} {v : Value} {xs : List S31} (h : OT w P v xs) : ∃ A c, v = .slice A xs.length c ∧ xs.length ≤ c ∧ Kd.F k31 w P A xs.length xs := by
  obtain ⟨A, c, ev, hl, _⟩ := h.reads
  refine ⟨A, c, ev, hl, fun w1 hw => ?_⟩
  obtain ⟨A2, c2, ev2, _, hC⟩ := (h.move hw).reads
  rw [ev] at ev2
  cases ev2
  exact hC
theorem OT.mono {w : World} {P Q : Nat → Prop} {v : Value} {xs : List S31} (h : OT w P v xs) (hq : ∀ k, P k → Q k) : OT w Q v xs := by
  induction h generalizing Q with
  | nil => exact .nil _ _ _ _
  | row cur f vs hp hc hm hg hb hcell hk ih => exact .row cur f vs hp hc hm (hq _ hg) hb hcell (fun j x hx => ih j x hx (fun k hk => ⟨⟨hq k hk.1.1, hk.1.2⟩, hk.2⟩))
theorem OT.bound {w : World} {P : Nat → Prop} {v : Value} {xs : List S31} (h : OT w P v xs) : OT w (fun k => P k ∧ k < w.heap.size) v xs := by
  induction h with
  | nil => exact .nil _ _ _ _
  | row cur f vs hp hc hm hg hb hcell hk ih => exact .row cur f vs hp hc hm ⟨hg, blk_lt hb⟩ hb hcell (fun j x hx => (ih j x hx).mono (fun k hk => ⟨⟨⟨hk.1.1.1, hk.2⟩, hk.1.1.2⟩, hk.1.2⟩))
/-- from a row of one's own -/
theorem OT.of : ∀ (d : Nat) (xs : List S31), SizeOf.sizeOf xs < d → ∀ {w : World} {base : Nat} {P : Nat → Prop} {v : Value}, Kd.S kS31 31 w base P v xs → OT w P v xs := by
  intro d
  induction d with
  | zero => exact fun xs h => absurd h (Nat.not_lt_zero _)
  | succ d ih =>
    intro xs hd w base P v h
    obtain ⟨A, c, ev, hlc, hC⟩ := Kd.S_reads h
    have hmax : xs.length ≤ 9223372036854775807 := Kd.C_max hC
    subst ev
    rcases Nat.eq_zero_or_pos xs.length with hz | hp
    · obtain rfl := List.eq_nil_of_length_eq_zero hz
      exact .nil _ _ _ _
    · obtain ⟨g, cap, e, _, _, cells, hb⟩ := Kd.S_form h hp
      cases e
      obtain ⟨f, hR⟩ := h
      have key : ∀ j : Nat, ∃ v, ∀ x, xs[j]? = some x → cells[j * 3]? = some (.int .i64 x.f0) ∧ cells[j * 3 + 1]? = some (.int .i64 x.f1) ∧ cells[j * 3 + 2]? = some v ∧ Kd.S kS31 31 w base (fun k => (P k ∧ k ≠ g) ∧ f k = j) v x.f2 := by
        intro j
        by_cases hj : j < xs.length
        · obtain ⟨c, hc, hM, hcell, _⟩ := Kd.R_elem hR ((z31, 0) : S31 × Nat) (j : Int) (by omega) (by omega)
          rw [Int.toNat_natCast] at hM hcell
          have he : xs.zipIdx.getD j ((z31, 0) : S31 × Nat) = (xs[j], j) := by
            rw [List.getD_eq_getElem?_getD, List.getElem?_zipIdx, List.getElem?_eq_getElem hj, Nat.zero_add]
            rfl
          rw [he] at hM
          obtain ⟨v, rfl, hS⟩ := kS31_openM hM
          refine ⟨v, fun x hx => ?_⟩
          rw [List.getElem?_eq_getElem hj] at hx
          cases hx
          have q : ∀ i u, ([.int .i64 xs[j].f0, .int .i64 xs[j].f1, v] : List Value)[i]? = some u → cells[j * 3 + i]? = some u := fun i u hu => by
            have h9 := hcell i u hu
            exact (blk_cell hb _).symm.trans h9
          exact ⟨q 0 _ rfl, q 1 _ rfl, q 2 _ rfl, hS⟩
        · exact ⟨undef, fun x hx => by rw [List.getElem?_eq_none (by omega)] at hx; cases hx⟩
      refine .row cells f (fun j => (key j).choose) hp hlc hmax (hR.1 g (by simp [Value.ownBlock])) hb (fun j x hx => ?_) (fun j x hx => ?_)
      · obtain ⟨h0, h1, h2, _⟩ := (key j).choose_spec x hx
        exact ⟨h0, h1, h2⟩
      · refine ih x.f2 ?_ ((key j).choose_spec x hx).2.2.2
        have h1 := List.sizeOf_lt_of_mem (List.mem_of_getElem? hx)
        have h2 : SizeOf.sizeOf x.f2 < SizeOf.sizeOf x := by
          obtain ⟨a, b, l⟩ := x
          simp
          omega
        omega
/-- the rows of a tree at block g, element by element -/
def RW (w : World) (P : Nat → Prop) (g n : Nat) (f : Nat → Nat) (vs : Nat → Value) (ys : Nat → S31) : Prop :=
  ∃ cur : Array Value, w.heap[g]? = some (.cells cur 31 (0, 0)) ∧ ∀ j, j < n → cur[j * 3]? = some (.int .i64 (ys j).f0) ∧ cur[j * 3 + 1]? = some (.int .i64 (ys j).f1) ∧ cur[j * 3 + 2]? = some (vs j) ∧ OT w (fun k => (P k ∧ k ≠ g) ∧ f k = j) (vs j) (ys j).f2
theorem RW.put {w : World} {P : Nat → Prop} {g n : Nat} {f : Nat → Nat} {vs : Nat → Value} {ys : Nat → S31} (h : RW w P g n f vs ys) (i : Nat) (hi : i < n) (q : Nat) (b : Int) (y : S31) (hy : (q = 0 ∧ y = ⟨b, (ys i).f1, (ys i).f2⟩) ∨ (q = 1 ∧ y = ⟨(ys i).f0, b, (ys i).f2⟩)) : RW (w.setCell ⟨g, i * 3 + q, none⟩ (.int .i64 b)) P g n f vs (fun j => if j = i then y else ys j) := by
  obtain ⟨cur, hb, hr⟩ := h
  refine ⟨_, blk_set hb _ _, fun j hj => ?_⟩
  obtain ⟨h0, h1, h2, h3⟩ := hr j hj
  obtain ⟨i0, i1, i2, i3⟩ := hr i hi
  have hs0 := (Array.getElem?_eq_some_iff.1 i0).1
  have hs1 := (Array.getElem?_eq_some_iff.1 i1).1
  have hO : OT (w.setCell ⟨g, i * 3 + q, none⟩ (.int .i64 b)) (fun k => (P k ∧ k ≠ g) ∧ f k = j) (vs j) (ys j).f2 := h3.move (fun k hk _ => Below.heap_setCell w _ _ k hk.1.2)
  by_cases e : j = i
  · subst e
    simp only [↓reduceIte]
    rcases hy with ⟨rfl, rfl⟩ | ⟨rfl, rfl⟩
    · refine ⟨?_, ?_, ?_, hO⟩
      · rw [Array.getElem?_setIfInBounds, if_pos (by omega), if_pos (by omega)]
      · rw [Array.getElem?_setIfInBounds, if_neg (by omega)]; exact h1
      · rw [Array.getElem?_setIfInBounds, if_neg (by omega)]; exact h2
    · refine ⟨?_, ?_, ?_, hO⟩
      · rw [Array.getElem?_setIfInBounds, if_neg (by omega)]; exact h0
      · rw [Array.getElem?_setIfInBounds, if_pos (by omega), if_pos (by omega)]
      · rw [Array.getElem?_setIfInBounds, if_neg (by omega)]; exact h2
  · simp only [if_neg e]
    have hq : q = 0 ∨ q = 1 := by rcases hy with h | h <;> simp [h.1]
    refine ⟨?_, ?_, ?_, hO⟩
    · rw [Array.getElem?_setIfInBounds, if_neg (by omega)]; exact h0
    · rw [Array.getElem?_setIfInBounds, if_neg (by omega)]; exact h1
    · rw [Array.getElem?_setIfInBounds, if_neg (by omega)]; exact h2
theorem RW.call {w w1 : World} {P : Nat → Prop} {g n : Nat} {f : Nat → Nat} {vs : Nat → Value} {ys : Nat → S31} (h : RW w P g n f vs ys) (i : Nat) (l : List S31) (hk : Kept w w1 (fun k => (P k ∧ k ≠ g) ∧ f k = i)) (hO : OT w1 (fun k => (P k ∧ k ≠ g) ∧ f k = i) (vs i) l) : RW w1 P g n f vs (fun j => if j = i then ⟨(ys i).f0, (ys i).f1, l⟩ else ys j) := by
  obtain ⟨cur, hb, hr⟩ := h
  refine ⟨cur, blk_kept hb hk (fun hg => hg.1.2 rfl), fun j hj => ?_⟩
  obtain ⟨h0, h1, h2, h3⟩ := hr j hj
  by_cases e : j = i
  · subst e
    simp only [↓reduceIte]
    exact ⟨h0, h1, h2, hO⟩
  · simp only [if_neg e]
    exact ⟨h0, h1, h2, h3.kept hk (fun k h4 h5 => e (h4.2.symm.trans h5.2))⟩
theorem OT.rw_of {w : World} {P : Nat → Prop} {v : Value} {xs : List S31} (h : OT w P v xs) : ∃ A c, v = .slice A xs.length c ∧ xs.length ≤ c ∧ xs.length ≤ 9223372036854775807 ∧ ∃ f vs, 0 < xs.length → ∃ g, A = some ⟨g, 0, none⟩ ∧ P g ∧ RW w P g xs.length f vs (fun j => xs.getD j z31) := by
  cases h with
  | nil _ A c => exact ⟨A, c, rfl, by simp, by simp, fun _ => 0, fun _ => undef, fun h => absurd h (by simp)⟩
  | row cur f vs hp hc hm hg hb hcell hk =>
    refine ⟨_, _, rfl, hc, hm, f, vs, fun _ => ⟨_, rfl, hg, cur, hb, fun j hj => ?_⟩⟩
    have hx : xs[j]? = some (xs.getD j z31) := by rw [List.getD_eq_getElem?_getD, List.getElem?_eq_getElem hj]; rfl
    obtain ⟨h0, h1, h2⟩ := hcell j _ hx
    exact ⟨h0, h1, h2, hk j _ hx⟩
theorem OT.of_rw {w : World} {P : Nat → Prop} {g n cap : Nat} {f : Nat → Nat} {vs : Nat → Value} {ys : Nat → S31} (h : RW w P g n f vs ys) (hg : P g) (hp : 0 < n) (hc : n ≤ cap) (hm : n ≤ 9223372036854775807) (xs : List S31) (hn : xs.length = n) (hx : ∀ j x, xs[j]? = some x → ys j = x) : OT w P (.slice (some ⟨g, 0, none⟩) n cap) xs := by
  subst hn
  obtain ⟨cur, hb, hr⟩ := h
  have hlt : ∀ j x, xs[j]? = some x → j < xs.length := fun j x h => (List.getElem?_eq_some_iff.1 h).1
  refine .row cur f vs hp hc hm hg hb (fun j x h => ?_) (fun j x h => ?_)
  · obtain ⟨h0, h1, h2, _⟩ := hr j (hlt j x h)
    rw [hx j x h] at h0 h1
    exact ⟨h0, h1, h2⟩
  · have h3 := (hr j (hlt j x h)).2.2.2
    rw [hx j x h] at h3
    exact h3
set_option maxHeartbeats 1600000 in
set_option maxRecDepth 100000 in
theorem markExS_any : ∀ (d : Nat) (xs : List S31), SizeOf.sizeOf xs < d → ∀ (P : Nat → Prop) (v : Value) (a : Int) (w0 w : World), Below w0.heap.size w0 w → (∀ k, P k → w0.heap.size ≤ k) → OT w P v xs → 0 ≤ a → a + 2 * nL xs ≤ 2305843009213693952 →
    Calls Try.prog 34 #[v, .int .i64 a] w fun e w' => e = .returned (.int .i64 (a + 2 * nL xs)) ∧ OT w' P v (mkL xs a) ∧ Below w0.heap.size w0 w' ∧ Kept w w' P := by
  intro d
  induction d with
  | zero => exact fun xs h => absurd h (Nat.not_lt_zero _)
  | succ d ih =>
    intro xs hd P v a w0 w hB hP hO ha0 ha1
    obtain ⟨A, c, ev, hlc, hmax, f, vs, hrw⟩ := hO.rw_of
    subst ev
    have HIH := Aside0.mk ih
    have HD := Aside0.mk hd
    have HP := Aside0.mk hP
    have HF := Aside0.mk (fun h => (hrw h).imp (fun g hg => (⟨hg.1, hg.2.1⟩ : A = some ⟨g, 0, none⟩ ∧ P g)))
    have HR := Aside0.mk (show ∃ ys : Nat → S31, (∀ g, A = some ⟨g, 0, none⟩ → 0 < xs.length → RW w P g xs.length f vs ys) ∧ ∀ j x, xs[j]? = some x → ys j = if j < 0 then mkT x (a + 2 * nL (xs.take j)) else x from
      ⟨fun j => xs.getD j z31, fun g hg hp => by obtain ⟨g', hg', _, hr⟩ := hrw hp; rw [hg] at hg'; cases hg'; exact hr, fun j x hx => by rw [if_neg (by omega)]; show xs.getD j z31 = x; rw [List.getD_eq_getElem?_getD, hx]; rfl⟩)
    have HB := Aside0.mk hB
    have HK := Aside0.mk (Kept.refl w P)
    have HA := Aside0.mk ha1
    clear hO hB hP hrw ih hd ha1
    go_enter Try.func34, Try.ntmps34
    go_wp2
    go_loopg [1, 5] xs.length (fun gg v1 v5 wr => ∃ kk : Nat, v1 = .int .i64 (a + 2 * nL (xs.take kk)) ∧ v5 = .int .i64 kk ∧ kk ≤ xs.length ∧ xs.length - kk ≤ gg ∧ Aside0 (∃ ys : Nat → S31, (∀ g, A = some ⟨g, 0, none⟩ → 0 < xs.length → RW wr P g xs.length f vs ys) ∧ ∀ j x, xs[j]? = some x → ys j = if j < kk then mkT x (a + 2 * nL (xs.take j)) else x) ∧ Aside0 (Below w0.heap.size w0 wr) ∧ Aside0 (Kept w wr P))
    case atStart => exact ⟨0, by simp [nL], rfl, Nat.zero_le _, by omega, HR, HB, HK⟩
    case round =>
      clear HR HB HK
      obtain ⟨kk, rfl, rfl, hk, hg, HR, HB, HK⟩ := hrel
      by_cases hlt : kk < xs.length
      · obtain ⟨g, ea, hPg⟩ := HF.out (by omega)
        subst ea
        obtain ⟨ys, hr0, hys⟩ := HR.out
        have hr := hr0 g rfl (by omega)
        obtain ⟨x, hx⟩ : ∃ x, xs[kk]? = some x := ⟨_, List.getElem?_eq_getElem hlt⟩
        have hyk : ys kk = x := by rw [hys kk x hx, if_neg (by omega)]
        have hnt := nL_take xs kk x hx
        have hnl := nL_take_le xs (kk + 1)
        have hA := HA.out
        have hnT := nT_eq x
        have hd2 : SizeOf.sizeOf x.f2 < d := by
          have h1 := List.sizeOf_lt_of_mem (List.mem_of_getElem? hx)
          have h2 : SizeOf.sizeOf x.f2 < SizeOf.sizeOf x := by
            obtain ⟨a, b, l⟩ := x
            simp
            omega
          have := HD.out
          omega
        obtain ⟨b, hb⟩ : ∃ b : Int, b = a + 2 * nL (xs.take kk) := ⟨_, rfl⟩
        rw [← hb]
        have hb0 : 0 ≤ b := by omega
        have hb2 : b + 2 + 2 * (nL x.f2 : Int) ≤ 2305843009213693952 := by omega
        have e1 : IntKind.i64.wrap (b + 1) = b + 1 := IntWalk.i64_in _ (by omega)
        have e2 : IntKind.i64.wrap (b + 1 + 1) = b + 2 := (IntWalk.i64_in _ (by omega)).trans (by omega)
        have e3 : IntKind.i64.wrap ((kk : Int) + 1) = ((kk + 1 : Nat) : Int) := IntWalk.i64_in _ (by omega)
        have hltz : (kk : Int) < (xs.length : Int) := by omega
        have h0z : (0 : Int) ≤ (kk : Int) := by omega
        -- the first store
        have hr1 := hr.put kk hlt 0 b ⟨b, x.f1, x.f2⟩ (.inl ⟨rfl, by rw [hyk]⟩)
        have hr2 := hr1.put kk hlt 1 (b + 1) ⟨b, b + 1, x.f2⟩ (.inr ⟨rfl, by simp⟩)
        have hB2 := below_set (j := kk * 3 + 1) (v := .int .i64 (b + 1)) (below_set (j := kk * 3 + 0) (v := .int .i64 b) HB.out (HP.out g hPg)) (HP.out g hPg)
        obtain ⟨w1, hw1⟩ : ∃ w1, wr.setCell ⟨g, kk * 3 + 0, none⟩ (.int .i64 b) = w1 := ⟨_, rfl⟩
        rw [hw1] at hr1 hr2 hB2
        obtain ⟨w2, hw2⟩ : ∃ w2, w1.setCell ⟨g, kk * 3 + 1, none⟩ (.int .i64 (b + 1)) = w2 := ⟨_, rfl⟩
        rw [hw2] at hr2 hB2
        have hK2 : Kept wr w2 P := by
          rw [← hw2, ← hw1]
          exact ((Kept.refl wr P).setCell (.inl hPg) _).setCell (.inl hPg) _
        obtain ⟨cur, hcb, hcr⟩ := hr
        obtain ⟨c0, c1, c2, _⟩ := hcr kk hlt
        have x0 : wr.cell? ⟨g, kk * 3, none⟩ = some (.int .i64 (ys kk).f0) := (blk_cell hcb _).trans c0
        have f0 : wr.frozen? ⟨g, kk * 3, none⟩ = false := blk_frozen hcb _
        obtain ⟨cur1, hcb1, hcr1⟩ := hr1
        obtain ⟨c0, c1, c2, _⟩ := hcr1 kk hlt
        have x1 := (blk_cell hcb1 (kk * 3 + 1)).trans c1
        have f1 : w1.frozen? ⟨g, kk * 3 + 1, none⟩ = false := blk_frozen hcb1 _
        have hr3 := hr2
        obtain ⟨cur2, hcb2, hcr2⟩ := hr2
        obtain ⟨c0, c1, c2, hO2⟩ := hcr2 kk hlt
        have x2 : w2.cell? ⟨g, kk * 3 + 2, none⟩ = some (vs kk) := (blk_cell hcb2 (kk * 3 + 2)).trans c2
        simp only [if_true] at hO2
        have hcall := HIH.out x.f2 hd2 _ (vs kk) (b + 2) w0 w2 hB2 (fun k hk2 => HP.out k hk2.1.1) hO2 (by omega) hb2
        obtain ⟨A2, l2, ev2, _⟩ := hO2.reads
        have HR3 := Aside0.mk hr3
        have HK2 := Aside0.mk hK2
        have HYS := Aside0.mk hys
        have HX := Aside0.mk hx
        have HNT := Aside0.mk hnt
        have HBB := Aside0.mk hb
        have HN2 := Aside0.mk hnT
        obtain ⟨n2, hn2⟩ : ∃ n2, x.f2.length = n2 := ⟨_, rfl⟩
        rw [hn2] at ev2
        have HEV := Aside0.mk ev2
        rw [ev2] at x2 hcall
        replace hw1 : wr.setCell ⟨g, kk * 3, none⟩ (.int .i64 b) = w1 := hw1
        clear hr3 hcr hcr1 hcr2 hcb hcb1 hcb2 c0 c1 c2 hO2 hr0 hys hB2 hK2 hnt hnl hA hnT hb hx ev2 HR HB hn2
        clear hyk
        go_wp2_with (first
          | ((with_reducible refine gate_store (t := 3) (p := 16) rfl ?_); refine store_event (t := 3) (p := 16) (v := .int .i64 b) (w1 := w1) ?hg ?ho ?hn ?hr ?_; (case ho => rfl); (case hg => rfl); (case hn => rfl); (case hr => rw [← hw1]; first | (go_simp; done) | (go_simp; rfl)); intro w3 hw; rw [hw]; clear hw w3 x0 f0 hw1)
          | ((with_reducible refine gate_store (t := 3) (p := 23) rfl ?_); refine store_event (t := 3) (p := 23) (v := .int .i64 (b + 1)) (w1 := w2) ?hg ?ho ?hn ?hr ?_; (case ho => rfl); (case hg => rfl); (case hn => rfl); (case hr => rw [← hw2]; first | (go_simp; done) | (go_simp; rfl)); intro w3 hw; rw [hw]; clear hw w3 x1 f1 hw2)
          | (go_at_call 34; refine hcall.mono ?_; rintro e w3 ⟨rfl, hO3, hB3, hK3⟩; clear hcall))
        have n1_ := Aside0.mk (show ∃ ys : Nat → S31, (∀ g', some (⟨g, 0, none⟩ : Addr) = some ⟨g', 0, none⟩ → 0 < xs.length → RW w3 P g' xs.length f vs ys) ∧ ∀ j y, xs[j]? = some y → ys j = if j < kk + 1 then mkT y (a + 2 * nL (xs.take j)) else y from by
          refine ⟨_, fun g' hg' _ => by cases hg'; exact HR3.out.call kk (mkL x.f2 (b + 2)) hK3 (by rw [HEV.out]; exact hO3), fun j y hy => ?_⟩
          by_cases e : j = kk
          · subst e
            have hxy : x = y := Option.some.inj (HX.out.symm.trans hy)
            subst hxy
            simp only [if_true]
            rw [if_pos (by omega), mkT_eq, ← HBB.out]
          · simp only [if_neg e]
            rw [HYS.out j y hy]
            by_cases hj : j < kk
            · rw [if_pos hj, if_pos (by omega)]
            · rw [if_neg hj, if_neg (by omega)])
        have n2_ := Aside0.mk ((HK.out.then_ HK2.out (fun k hk2 => .inl hk2)).then_ hK3 (fun k hk2 => .inl hk2.1.1))
        have n3_ := Aside0.mk hB3
        have n4_ : b + 2 + 2 * (nL x.f2 : Int) = a + 2 * nL (xs.take (kk + 1)) := by
          have := HNT.out; have := HBB.out; have := HN2.out; omega
        rw [n4_]
        clear hO3 hB3 hK3 HK
        go_roundg (gk - 1)
        case measure => omega
        case rel => exact ⟨kk + 1, rfl, rfl, by omega, by omega, n1_, n3_, n2_⟩
      · obtain rfl : kk = xs.length := by omega
        obtain ⟨ys, hr0, hys⟩ := HR.out
        have HR2 := Aside0.mk hr0
        have HYS := Aside0.mk hys
        clear hr0 hys HR
        rw [List.take_length]
        go_wp2
        go_ret
        refine ⟨rfl, ?_, HB.out, HK.out⟩
        rcases Nat.eq_zero_or_pos xs.length with hz | hp
        · obtain rfl := List.eq_nil_of_length_eq_zero hz
          rw [mkL]
          exact .nil _ _ _ _
        · obtain ⟨g, ea, hPg⟩ := HF.out hp
          subst ea
          refine OT.of_rw (HR2.out g rfl hp) hPg hp hlc hmax _ (mkL_length _ _) (fun j y hy => ?_)
          have hj : j < xs.length := by
            have := (List.getElem?_eq_some_iff.1 hy).1
            rwa [mkL_length] at this
          have h1 := mkL_at xs a j _ (List.getElem?_eq_getElem hj)
          rw [h1] at hy
          cases hy
          rw [HYS.out j _ (List.getElem?_eq_getElem hj), if_pos hj]

/-! ### laws_toExS: function 31 -/
def laws_toEx.g (F_ : List (S24) → Option ((List (S31)))) (a0_0 : Int) (a0_1 : Int) (l0_2 : List (S24)) : Option (Int × Int × (List (S31))) := (F_ l0_2).bind fun t114 => (some (a0_0, a0_1, t114))
theorem laws_toEx.mono_g : ∀ (F_ G_ : List (S24) → Option ((List (S31)))), (∀ y0, LeO (F_ y0) (G_ y0)) → ∀ z0 z1 z2, LeO (laws_toEx.g F_ z0 z1 z2) (laws_toEx.g G_ z0 z1 z2) := by
  intro F_ G_ hFG z0 z1 z2
  unfold laws_toEx.g
  repeat' first
      | (with_reducible exact hFG _)
      | (with_reducible exact LeO.refl _)
      | (with_reducible exact LeO.none _)
      | (with_reducible refine LeO.ite ?_ ?_)
      | (with_reducible refine LeO.bind ?_ (fun _ => ?_))
      | exact hFG _
      | exact LeO.none _
      | refine LeO.ite ?_ ?_
      | refine LeO.bind ?_ (fun _ => ?_)

/-! ### laws_toExS: function 31 -/
mutual
def laws_toExS.l0 : Nat → List (S24) → List (S31) → Int → Option ((List (S31)))
  | 0, _, _, _ => none
  | k + 1, x0, x3, x4 => if x4 < (x0.length : Int) then (if 0 ≤ x4 then ((laws_toEx.g (laws_toExS.f k) ((rd_T24 x0 x4).f0) ((rd_T24 x0 x4).f1) ((rd_T24 x0 x4).f2)).bind fun bt121 => (if x4 < (x3.length : Int) then (laws_toExS.l0 k x0 (x3.set (x4 : Int).toNat (⟨bt121.1, bt121.2.1, bt121.2.2⟩ : S31)) (wrap64 (x4 + 1))) else (none))) else (none)) else (some x3)
def laws_toExS.f : Nat → List (S24) → Option ((List (S31)))
  | 0, _ => none
  | k + 1, l0 => if 0 ≤ (l0.length : Int) then (if ((l0.length : Int) : Int).toNat ≤ 7036874417766 then (laws_toExS.l0 k l0 (List.replicate ((l0.length : Int) : Int).toNat z31) 0) else (none)) else (none)
end
theorem laws_toExS.mono_l : ∀ k, (∀ y0, LeO (laws_toExS.f k y0) (laws_toExS.f (k + 1) y0)) ∧ (∀ y0 y1 y2, LeO (laws_toExS.l0 k y0 y1 y2) (laws_toExS.l0 (k + 1) y0 y1 y2))
  | 0 => ⟨fun _ r h => by simp [laws_toExS.f] at h, fun _ _ _ r h => by simp [laws_toExS.l0] at h⟩
  | k + 1 => by
    obtain ⟨ih0, ih1⟩ := laws_toExS.mono_l k
    refine ⟨?_, ?_⟩
    · intro y0
      unfold laws_toExS.f
      repeat' first
      | (with_reducible exact ih0 _)
      | (with_reducible exact ih1 _ _ _)
      | (with_reducible exact laws_toEx.mono_g _ _ (fun _ => ih0 _) _ _ _)
      | (with_reducible exact LeO.refl _)
      | (with_reducible exact LeO.none _)
      | (with_reducible refine LeO.ite ?_ ?_)
      | (with_reducible refine LeO.bind ?_ (fun _ => ?_))
      | exact ih0 _
      | exact ih1 _ _ _
      | exact laws_toEx.mono_g _ _ (fun _ => ih0 _) _ _ _
      | exact LeO.none _
      | refine LeO.ite ?_ ?_
      | refine LeO.bind ?_ (fun _ => ?_)
    · intro y0 y1 y2
      unfold laws_toExS.l0
      repeat' first
      | (with_reducible exact ih0 _)
      | (with_reducible exact ih1 _ _ _)
      | (with_reducible exact laws_toEx.mono_g _ _ (fun _ => ih0 _) _ _ _)
      | (with_reducible exact LeO.refl _)
      | (with_reducible exact LeO.none _)
      | (with_reducible refine LeO.ite ?_ ?_)
      | (with_reducible refine LeO.bind ?_ (fun _ => ?_))
      | exact ih0 _
      | exact ih1 _ _ _
      | exact laws_toEx.mono_g _ _ (fun _ => ih0 _) _ _ _
      | exact LeO.none _
      | refine LeO.ite ?_ ?_
      | refine LeO.bind ?_ (fun _ => ?_)
theorem laws_toExS.mono : ∀ a0 k, LeO (laws_toExS.f k a0) (laws_toExS.f (k + 1) a0) := by
  intro a0 k
  obtain ⟨ih0, ih1⟩ := laws_toExS.mono_l k
  exact ih0 a0
set_option maxHeartbeats 8000000 in
set_option maxRecDepth 100000 in
theorem toS.calls_g (k : Nat) (hF_ : ∀ (A0 : Option Addr) (c0 : Nat) (l0 : List (S24)) (r : List (S31)) (w : World) (hr0 : Kd.C k24 w A0 l0.length l0) (hc0 : l0.length ≤ c0) (h : laws_toExS.f k l0 = some r), Calls Try.prog 31 #[.slice A0 l0.length c0] w fun e w' => ∃ v0_ : Value, e = .returned (v0_) ∧ Kd.S kS31 31 w' w.heap.size (fun _ => True) v0_ r ∧ Below w.heap.size w w') (a0_0 : Int) (a0_1 : Int) (A0_2 : Option Addr) (c0_2 : Nat) (l0_2 : List (S24)) (r1 : Int) (r2 : Int) (r3 : List (S31)) (w : World) (hr0_2 : Kd.C k24 w A0_2 l0_2.length l0_2) (hc0_2 : l0_2.length ≤ c0_2) (h : laws_toEx.g (laws_toExS.f k) a0_0 a0_1 l0_2 = some (r1, r2, r3)) :
    Calls Try.prog 13 #[.agg #[.int .i64 a0_0, .int .i64 a0_1, .slice A0_2 l0_2.length c0_2]] w fun e w' => ∃ v2_ : Value, e = .returned (.agg #[.int .i64 r1, .int .i64 r2, v2_]) ∧ Kd.S kS31 31 w' w.heap.size (fun _ => True) v2_ r3 ∧ Below w.heap.size w w' := by
  have hu24 := Try.underlying24
  have hu31 := Try.underlying31
  have HR0_2 := Aside0.mk hr0_2
  have HC0_2 := Aside0.mk hc0_2
  clear hr0_2 hc0_2
  have HB := Aside0.mk (Below.refl w.heap.size w)
  have H : ((laws_toExS.f k l0_2).bind fun t114 => (some (a0_0, a0_1, t114))) = some (r1, r2, r3) := h
  clear h
  replace H := Option.bind_eq_some_iff.mp H
  obtain ⟨t114, A20, H⟩ := H
  replace H : (some (a0_0, a0_1, t114)) = some (r1, r2, r3) := H
  have A2 := Aside0.mk A20
  clear A20
  simp only [Option.some.injEq, Prod.mk.injEq] at H
  obtain ⟨rfl, rfl, rfl⟩ := H
  go_enter Try.func13, Try.ntmps13
  go_wp2_with (first | ((with_reducible refine gate_dst (N := 1) rfl ?_); refine box_event ?hg (N := 1) ?hd (cs := #[.int .i64 a0_0, .int .i64 a0_1, .slice A0_2 l0_2.length c0_2]) (t := 24) ?hr ?_; (case hd => rfl); (case hg => rfl); (case hr => first | (go_simp; done) | (go_simp; rfl)); intro gb111 hg w3 hbox hb; have n0_ := Aside0.mk (below_step (by repeat (first | (with_reducible first | exact HB.out | apply below_alloc | apply pw_below_drewN | apply below_drew1) | exact HB.out)) hb); have n1_ := Aside0.mk (hbox); have n2_ := Aside0.mk ((by rw [hg]; exact (below_size (by repeat (first | (with_reducible first | exact HB.out | apply below_alloc | apply pw_below_drewN | apply below_drew1) | exact HB.out))) : w.heap.size ≤ gb111)); have n3_ := Aside0.mk ((by rw [hg]; exact (below_size (by repeat (first | (with_reducible first | exact HB.out | apply below_alloc | apply pw_below_drewN | apply below_drew1) | exact HB.out))) : w.heap.size ≤ gb111)); clear HB; have HB := n0_; have BK111 := n1_; have GW111 := n2_; have GE111 := n3_; clear n0_ n1_ n2_ n3_; clear hb hbox hg) | ((with_reducible refine gate_dst (N := 2) rfl ?_); refine box_event ?hg (N := 2) ?hd (cs := #[.int .i64 0, .int .i64 0, .slice none 0 0]) (t := 31) ?hr ?_; (case hd => rfl); (case hg => rfl); (case hr => first | (go_simp; done) | (go_simp; rfl)); intro gb112 hg w4 hbox hb; have n0_ := Aside0.mk (blk_below (g := gb111) (o := .cells #[.int .i64 a0_0, .int .i64 a0_1, .slice A0_2 l0_2.length c0_2] 24 (0, 0)) (by (with_reducible repeat (first | refine blk_drewN ?_ _ | refine blk_drew ?_ | refine blk_alloc ?_ _)); exact BK111.out) hb); have n1_ := Aside0.mk (below_step (by repeat (first | (with_reducible first | exact HB.out | apply below_alloc | apply pw_below_drewN | apply below_drew1 | refine below_set ?_ GE111.out) | exact HB.out)) hb); have n2_ := Aside0.mk (hbox); have n3_ := Aside0.mk ((by rw [hg]; exact (below_size (by repeat (first | (with_reducible first | exact HB.out | apply below_alloc | apply pw_below_drewN | apply below_drew1 | refine below_set ?_ GE111.out) | exact HB.out))) : w.heap.size ≤ gb112)); have n4_ := Aside0.mk ((by rw [hg]; exact (below_size (by repeat (first | (with_reducible first | exact HB.out | apply below_alloc | apply pw_below_drewN | apply below_drew1 | refine below_set ?_ GE111.out) | exact HB.out))) : w.heap.size ≤ gb112)); have n5_ := Aside0.mk ((by rw [hg]; exact Nat.ne_of_lt (blk_lt (g := gb111) (o := .cells #[.int .i64 a0_0, .int .i64 a0_1, .slice A0_2 l0_2.length c0_2] 24 (0, 0)) (by (with_reducible repeat (first | refine blk_drewN ?_ _ | refine blk_drew ?_ | refine blk_alloc ?_ _)); exact BK111.out)) : gb111 ≠ gb112)); have n6_ := Aside0.mk ((by rw [hg]; exact Nat.ne_of_gt (blk_lt (g := gb111) (o := .cells #[.int .i64 a0_0, .int .i64 a0_1, .slice A0_2 l0_2.length c0_2] 24 (0, 0)) (by (with_reducible repeat (first | refine blk_drewN ?_ _ | refine blk_drew ?_ | refine blk_alloc ?_ _)); exact BK111.out)) : gb112 ≠ gb111)); clear BK111; clear HB; have BK111 := n0_; have HB := n1_; have BK112 := n2_; have GW112 := n3_; have GE112 := n4_; have NB111_112 := n5_; have NB112_111 := n6_; clear n0_ n1_ n2_ n3_ n4_ n5_ n6_; clear hb hbox hg) | ((with_reducible refine gate_dst (N := 3) rfl ?_); refine box_event ?hg (N := 3) ?hd (cs := #[.int .i64 0, .int .i64 0, .slice none 0 0]) (t := 31) ?hr ?_; (case hd => rfl); (case hg => rfl); (case hr => first | (go_simp; done) | (go_simp; rfl)); intro gb113 hg w5 hbox hb; have n0_ := Aside0.mk (blk_below (g := gb111) (o := .cells #[.int .i64 a0_0, .int .i64 a0_1, .slice A0_2 l0_2.length c0_2] 24 (0, 0)) (by (with_reducible repeat (first | refine blk_drewN ?_ _ | refine blk_drew ?_ | refine blk_alloc ?_ _)); exact BK111.out) hb); have n1_ := Aside0.mk (blk_below (g := gb112) (o := .cells #[.int .i64 0, .int .i64 0, .slice none 0 0] 31 (0, 0)) (by (with_reducible repeat (first | refine blk_drewN ?_ _ | refine blk_drew ?_ | refine blk_alloc ?_ _)); exact BK112.out) hb); have n2_ := Aside0.mk (below_step (by repeat (first | (with_reducible first | exact HB.out | apply below_alloc | apply pw_below_drewN | apply below_drew1 | refine below_set ?_ GE111.out | refine below_set ?_ GE112.out) | exact HB.out)) hb); have n3_ := Aside0.mk (hbox); have n4_ := Aside0.mk ((by rw [hg]; exact (below_size (by repeat (first | (with_reducible first | exact HB.out | apply below_alloc | apply pw_below_drewN | apply below_drew1 | refine below_set ?_ GE111.out | refine below_set ?_ GE112.out) | exact HB.out))) : w.heap.size ≤ gb113)); have n5_ := Aside0.mk ((by rw [hg]; exact (below_size (by repeat (first | (with_reducible first | exact HB.out | apply below_alloc | apply pw_below_drewN | apply below_drew1 | refine below_set ?_ GE111.out | refine below_set ?_ GE112.out) | exact HB.out))) : w.heap.size ≤ gb113)); have n6_ := Aside0.mk ((by rw [hg]; exact Nat.ne_of_lt (blk_lt (g := gb111) (o := .cells #[.int .i64 a0_0, .int .i64 a0_1, .slice A0_2 l0_2.length c0_2] 24 (0, 0)) (by (with_reducible repeat (first | refine blk_drewN ?_ _ | refine blk_drew ?_ | refine blk_alloc ?_ _)); exact BK111.out)) : gb111 ≠ gb113)); have n7_ := Aside0.mk ((by rw [hg]; exact Nat.ne_of_gt (blk_lt (g := gb111) (o := .cells #[.int .i64 a0_0, .int .i64 a0_1, .slice A0_2 l0_2.length c0_2] 24 (0, 0)) (by (with_reducible repeat (first | refine blk_drewN ?_ _ | refine blk_drew ?_ | refine blk_alloc ?_ _)); exact BK111.out)) : gb113 ≠ gb111)); have n8_ := Aside0.mk ((by rw [hg]; exact Nat.ne_of_lt (blk_lt (g := gb112) (o := .cells #[.int .i64 0, .int .i64 0, .slice none 0 0] 31 (0, 0)) (by (with_reducible repeat (first | refine blk_drewN ?_ _ | refine blk_drew ?_ | refine blk_alloc ?_ _)); exact BK112.out)) : gb112 ≠ gb113)); have n9_ := Aside0.mk ((by rw [hg]; exact Nat.ne_of_gt (blk_lt (g := gb112) (o := .cells #[.int .i64 0, .int .i64 0, .slice none 0 0] 31 (0, 0)) (by (with_reducible repeat (first | refine blk_drewN ?_ _ | refine blk_drew ?_ | refine blk_alloc ?_ _)); exact BK112.out)) : gb113 ≠ gb112)); clear BK111; clear BK112; clear HB; have BK111 := n0_; have BK112 := n1_; have HB := n2_; have BK113 := n3_; have GW113 := n4_; have GE113 := n5_; have NB111_113 := n6_; have NB113_111 := n7_; have NB112_113 := n8_; have NB113_112 := n9_; clear n0_ n1_ n2_ n3_ n4_ n5_ n6_ n7_ n8_ n9_; clear hb hbox hg; have hnb6 := NB111_112.out; have hnc6 := NB112_111.out; have hnb7 := NB111_113.out; have hnc7 := NB113_111.out; have hcz8_0 : w5.cell? ⟨gb111, 0, none⟩ = some (.int .i64 a0_0) := (blk_cell BK111.out 0).trans rfl; have hcz8_1 : w5.cell? ⟨gb111, 1, none⟩ = some (.int .i64 a0_1) := (blk_cell BK111.out 1).trans rfl; have hcz8_2 : w5.cell? ⟨gb111, 2, none⟩ = some (.slice A0_2 l0_2.length c0_2) := (blk_cell BK111.out 2).trans rfl; have hfz8_0 := blk_frozen BK111.out 0; have hfz8_1 := blk_frozen BK111.out 1; have hfz8_2 := blk_frozen BK111.out 2; have hnb9 := NB113_112.out; have hnc9 := NB112_113.out; have hcz10_0 : w5.cell? ⟨gb113, 0, none⟩ = some (.int .i64 0) := (blk_cell BK113.out 0).trans rfl; have hcz10_1 : w5.cell? ⟨gb113, 1, none⟩ = some (.int .i64 0) := (blk_cell BK113.out 1).trans rfl; have hcz10_2 : w5.cell? ⟨gb113, 2, none⟩ = some (.slice none 0 0) := (blk_cell BK113.out 2).trans rfl; have hfz10_0 := blk_frozen BK113.out 0; have hfz10_1 := blk_frozen BK113.out 1; have hfz10_2 := blk_frozen BK113.out 2) | ((with_reducible refine gate_callee (f := 31) rfl ?_); refine goesL_ (some 12) rfl rfl Try.func31 (by kernel_rfl) rfl #[.slice A0_2 l0_2.length c0_2] rfl (by (try simp only [List.map_toArray, List.map_cons, List.map_nil]); first | done | rfl | (simp only [List.length_drop, List.length_take]; rfl)) ?_; (with_reducible refine (hF_ _ _ l0_2 t114 _ ?side1 ?side2 A2.out).mono ?_); (case side1 => exact Kd.C_below HR0_2.out (by repeat (first | (with_reducible first | exact HB.out | apply below_alloc | apply pw_below_drewN | apply below_drew1 | refine below_set ?_ GE111.out | refine below_set ?_ GE112.out | refine below_set ?_ GE113.out) | exact HB.out))); (case side2 => exact HC0_2.out); rintro e w11 ⟨v115, rfl, ho0, hb⟩; refine ⟨_, rfl, ?_⟩; have n0_ := Aside0.mk (Kd.S_lower (Kd.S_newB (Kd.S_newB ho0 (g := gb112) (o := .cells #[.int .i64 0, .int .i64 0, .slice none 0 0] 31 (0, 0)) (by (with_reducible repeat (first | refine blk_drewN ?_ _ | refine blk_drew ?_ | refine blk_alloc ?_ _)); refine blk_far ?_ NB112_113.out _; (with_reducible repeat (first | refine blk_drewN ?_ _ | refine blk_drew ?_ | refine blk_alloc ?_ _)); refine blk_far ?_ NB112_113.out _; (with_reducible repeat (first | refine blk_drewN ?_ _ | refine blk_drew ?_ | refine blk_alloc ?_ _)); exact BK112.out)) (g := gb113) (o := .cells #[.int .i64 a0_0, .int .i64 a0_1, .slice none 0 0] 31 (0, 0)) (by (with_reducible repeat (first | refine blk_drewN ?_ _ | refine blk_drew ?_ | refine blk_alloc ?_ _)); refine blk_put (cs := #[.int .i64 a0_0, .int .i64 0, .slice none 0 0]) ?_ 1 _ rfl; (with_reducible repeat (first | refine blk_drewN ?_ _ | refine blk_drew ?_ | refine blk_alloc ?_ _)); refine blk_put (cs := #[.int .i64 0, .int .i64 0, .slice none 0 0]) ?_ 0 _ rfl; (with_reducible repeat (first | refine blk_drewN ?_ _ | refine blk_drew ?_ | refine blk_alloc ?_ _)); exact BK113.out)) (below_size (by repeat (first | (with_reducible first | exact HB.out | apply below_alloc | apply pw_below_drewN | apply below_drew1 | refine below_set ?_ GE111.out | refine below_set ?_ GE112.out | refine below_set ?_ GE113.out) | exact HB.out)))); have n1_ := Aside0.mk (blk_below (g := gb111) (o := .cells #[.int .i64 a0_0, .int .i64 a0_1, .slice A0_2 l0_2.length c0_2] 24 (0, 0)) (by (with_reducible repeat (first | refine blk_drewN ?_ _ | refine blk_drew ?_ | refine blk_alloc ?_ _)); refine blk_far ?_ NB111_113.out _; (with_reducible repeat (first | refine blk_drewN ?_ _ | refine blk_drew ?_ | refine blk_alloc ?_ _)); refine blk_far ?_ NB111_113.out _; (with_reducible repeat (first | refine blk_drewN ?_ _ | refine blk_drew ?_ | refine blk_alloc ?_ _)); exact BK111.out) hb); have n2_ := Aside0.mk (blk_below (g := gb112) (o := .cells #[.int .i64 0, .int .i64 0, .slice none 0 0] 31 (0, 0)) (by (with_reducible repeat (first | refine blk_drewN ?_ _ | refine blk_drew ?_ | refine blk_alloc ?_ _)); refine blk_far ?_ NB112_113.out _; (with_reducible repeat (first | refine blk_drewN ?_ _ | refine blk_drew ?_ | refine blk_alloc ?_ _)); refine blk_far ?_ NB112_113.out _; (with_reducible repeat (first | refine blk_drewN ?_ _ | refine blk_drew ?_ | refine blk_alloc ?_ _)); exact BK112.out) hb); have n3_ := Aside0.mk (blk_below (g := gb113) (o := .cells #[.int .i64 a0_0, .int .i64 a0_1, .slice none 0 0] 31 (0, 0)) (by (with_reducible repeat (first | refine blk_drewN ?_ _ | refine blk_drew ?_ | refine blk_alloc ?_ _)); refine blk_put (cs := #[.int .i64 a0_0, .int .i64 0, .slice none 0 0]) ?_ 1 _ rfl; (with_reducible repeat (first | refine blk_drewN ?_ _ | refine blk_drew ?_ | refine blk_alloc ?_ _)); refine blk_put (cs := #[.int .i64 0, .int .i64 0, .slice none 0 0]) ?_ 0 _ rfl; (with_reducible repeat (first | refine blk_drewN ?_ _ | refine blk_drew ?_ | refine blk_alloc ?_ _)); exact BK113.out) hb); have n4_ := Aside0.mk (below_step (by repeat (first | (with_reducible first | exact HB.out | apply below_alloc | apply pw_below_drewN | apply below_drew1 | refine below_set ?_ GE111.out | refine below_set ?_ GE112.out | refine below_set ?_ GE113.out) | exact HB.out)) hb); clear BK111; clear BK112; clear BK113; clear HB; have HO116 := n0_; have BK111 := n1_; have BK112 := n2_; have BK113 := n3_; have HB := n4_; clear n0_ n1_ n2_ n3_ n4_; (try clear hb); (try clear hb2); (try clear hk); (try clear hi); (try clear ho0); obtain ⟨Ao12, co12, eo12⟩ := Kd.S_slice HO116.out; subst eo12; have hcz13_0 : w11.cell? ⟨gb113, 0, none⟩ = some (.int .i64 a0_0) := (blk_cell BK113.out 0).trans rfl; have hcz13_1 : w11.cell? ⟨gb113, 1, none⟩ = some (.int .i64 a0_1) := (blk_cell BK113.out 1).trans rfl; have hcz13_2 : w11.cell? ⟨gb113, 2, none⟩ = some (.slice none 0 0) := (blk_cell BK113.out 2).trans rfl; have hfz13_0 := blk_frozen BK113.out 0; have hfz13_1 := blk_frozen BK113.out 1; have hfz13_2 := blk_frozen BK113.out 2; have hcz14_0 : w11.cell? ⟨gb112, 0, none⟩ = some (.int .i64 0) := (blk_cell BK112.out 0).trans rfl; have hcz14_1 : w11.cell? ⟨gb112, 1, none⟩ = some (.int .i64 0) := (blk_cell BK112.out 1).trans rfl; have hcz14_2 : w11.cell? ⟨gb112, 2, none⟩ = some (.slice none 0 0) := (blk_cell BK112.out 2).trans rfl; have hfz14_0 := blk_frozen BK112.out 0; have hfz14_1 := blk_frozen BK112.out 1; have hfz14_2 := blk_frozen BK112.out 2))
  refine bodyPost_ret (results_cell_row rfl _ _ gb112 31 #[.int .i64 a0_0, .int .i64 a0_1, .slice Ao12 t114.length co12] (0, 0) _ rfl (by (with_reducible repeat (first | refine blk_drewN ?_ _ | refine blk_drew ?_ | refine blk_alloc ?_ _)); refine blk_put (cs := #[.int .i64 a0_0, .int .i64 a0_1, .slice none 0 0]) ?_ 2 _ rfl; (with_reducible repeat (first | refine blk_drewN ?_ _ | refine blk_drew ?_ | refine blk_alloc ?_ _)); refine blk_put (cs := #[.int .i64 a0_0, .int .i64 0, .slice none 0 0]) ?_ 1 _ rfl; (with_reducible repeat (first | refine blk_drewN ?_ _ | refine blk_drew ?_ | refine blk_alloc ?_ _)); refine blk_put (cs := #[.int .i64 0, .int .i64 0, .slice none 0 0]) ?_ 0 _ rfl; (with_reducible repeat (first | refine blk_drewN ?_ _ | refine blk_drew ?_ | refine blk_alloc ?_ _)); refine blk_far ?_ NB112_113.out _; (with_reducible repeat (first | refine blk_drewN ?_ _ | refine blk_drew ?_ | refine blk_alloc ?_ _)); exact BK112.out) Try.underlying31 rfl (by kernel_rfl)) rfl ?_
  exact ⟨_, by first | rfl | (simp [errW_none, errW_some] <;> rfl) | (simp [*, errW_none, errW_some] <;> rfl), by (with_reducible repeat (first | apply Kd.S_alloc | apply Kd.S_drewN | apply Kd.S_drew)); exact Kd.S_mono (Kd.S_far (p := ⟨gb112, 2, none⟩) (Kd.S_far (p := ⟨gb112, 1, none⟩) (Kd.S_far (p := ⟨gb112, 0, none⟩) (Kd.S_far (p := ⟨gb113, 2, none⟩) (Kd.S_mono (Kd.S_mono HO116.out (fun k_ hk => (⟨hk, hk.2⟩ : _ ∧ k_ ≠ gb113))) (fun k_ hk => (⟨hk, hk.1.1.2⟩ : _ ∧ k_ ≠ gb112))) (fun _ hk => hk.1.2) (.slice Ao12 t114.length co12)) (fun _ hk => hk.2) (.int .i64 a0_0)) (fun _ hk => hk.2) (.int .i64 a0_1)) (fun _ hk => hk.2) (.slice Ao12 t114.length co12)) (fun _ hk => trivial), by repeat (first | (with_reducible first | exact HB.out | apply below_alloc | apply pw_below_drewN | apply below_drew1 | refine below_set ?_ GE111.out | refine below_set ?_ GE112.out | refine below_set ?_ GE113.out) | exact HB.out)⟩
set_option maxHeartbeats 8000000 in
set_option maxRecDepth 100000 in
theorem toSS.calls (k : Nat) : ∀ (A0 : Option Addr) (c0 : Nat) (l0 : List (S24)) (r : List (S31)) (w : World) (hr0 : Kd.C k24 w A0 l0.length l0) (hc0 : l0.length ≤ c0) (h : laws_toExS.f k l0 = some r),
    Calls Try.prog 31 #[.slice A0 l0.length c0] w fun e w' => ∃ v0_ : Value, e = .returned (v0_) ∧ Kd.S kS31 31 w' w.heap.size (fun _ => True) v0_ r ∧ Below w.heap.size w w' := by
  induction k using Nat.strongRecOn with
  | _ k ih =>
  intro A0 c0 l0 r w hr0 hc0 h
  cases k with
  | zero => exact absurd h (by simp [laws_toExS.f])
  | succ k =>
  simp only [laws_toExS.f] at h
  have hu24 := Try.underlying24
  have hu31 := Try.underlying31
  have HR0 := Aside0.mk hr0
  have HC0 := Aside0.mk hc0
  clear hr0 hc0
  have HB := Aside0.mk (Below.refl w.heap.size w)
  have H : (if 0 ≤ (l0.length : Int) then (if ((l0.length : Int) : Int).toNat ≤ 7036874417766 then (laws_toExS.l0 k l0 (List.replicate ((l0.length : Int) : Int).toNat z31) 0) else (none)) else (none)) = some r := h
  clear h
  by_cases c2 : 0 ≤ (l0.length : Int)
  · rw [if_pos c2] at H
    have c2b0 := eq_true c2
    have c2b1 : decide (0 ≤ (l0.length : Int)) = true := decide_eq_true c2
    clear c2
    by_cases c3 : ((l0.length : Int) : Int).toNat ≤ 7036874417766
    · rw [if_pos c3] at H
      have c3b0 := eq_true c3
      have c3b1 : decide (((l0.length : Int) : Int).toNat ≤ 7036874417766) = true := decide_eq_true c3
      clear c3
      obtain ⟨y117, hy117⟩ : ∃ y_ : List (S31), y_ = (List.replicate ((l0.length : Int) : Int).toNat z31) := ⟨_, rfl⟩
      replace H : (laws_toExS.l0 k l0 y117 0) = some r := by first | (rw [hy117]; with_reducible exact H) | (have H2_ := (Option.bind_some _ _).symm.trans H; rw [hy117]; with_reducible exact H2_) | (have H2_ := (Option.bind_some _ _).symm.trans H; with_reducible exact H2_) | with_reducible exact H | (rw [hy117]; exact H) | exact H
      have Ny117 := Aside0.mk hy117
      clear hy117
      have H' := Aside0.mk H
      clear H
      go_enter Try.func31, Try.ntmps31
      go_wp2_with (first | ((with_reducible refine gate_dst (N := 7) rfl ?_); refine Kd.S_make kS31 _ 31 rfl (N := 7) rfl 29 _ _ rfl (l0.length : Int) rfl rfl Try.underlying29 (.agg #[(.int .i64 0), (.int .i64 0), (.slice none 0 0)]) 40 info31 rfl (by decide) (by omega) z31 (ok := fun _ => True) (okp := fun _ => True) (kS31_mkM _ _ _ z31 (Kd.S_nil _ _ _ _ _)) (fun _ hk => hk) trivial (of_decide_eq_true (by first | (with_reducible assumption) | assumption)) (Nat.le_trans (Nat.mul_le_mul_right _ (of_decide_eq_true (by first | (with_reducible assumption) | assumption) : (l0.length : Int).toNat ≤ 7036874417766)) (by omega)) (Below.refl _ _) (Nat.le_refl _) ?_; intro v118 w4 ho5 hb hg_ hnew_; clear hg_ hnew_; (first | rw [← Ny117.out] at ho5 | (simp only [Int.reduceToNat] at ho5; rw [← Ny117.out] at ho5)); have n0_ := Aside0.mk (Kd.S_lower ho5 (below_size (by repeat (first | (with_reducible first | exact HB.out | apply below_alloc | apply pw_below_drewN | apply below_drew1) | exact HB.out)))); have n1_ := Aside0.mk (below_step (by repeat (first | (with_reducible first | exact HB.out | apply below_alloc | apply pw_below_drewN | apply below_drew1) | exact HB.out)) hb); clear HB; have HO119 := n0_; have HB := n1_; clear n0_ n1_; clear hb ho5))
      go_loopg [4] k (fun kq v4 w' => ∃ (x3_1 : List (S31)) (x4_1 : Int), v4 = .int .i64 x4_1 ∧ Aside0 (laws_toExS.l0 kq l0 x3_1 x4_1 = some r) ∧ Aside0 (kq ≤ k) ∧ Aside0 (Kd.S kS31 31 w' w.heap.size (fun _ => True) v118 x3_1) ∧ Aside0 (Below w.heap.size w w'))
      case atStart => exact ⟨(y117), (0), (by first | rfl | (simp; done) | (simp [*]; done)), H', ⟨Nat.le_refl _⟩, ⟨by (with_reducible repeat (first | apply Kd.S_alloc | apply Kd.S_drewN | apply Kd.S_drew)); exact HO119.out⟩, ⟨by repeat (first | (with_reducible first | exact HB.out | apply below_alloc | apply pw_below_drewN | apply below_drew1) | exact HB.out)⟩⟩
      case round =>
        clear H'
        try clear c2
        try clear c2b0
        try clear c2b1
        try clear p2
        try clear c3
        try clear c3b0
        try clear c3b1
        obtain ⟨x3_1, x4_1, rfl, HA, HK1, HO_3, HB⟩ := hrel
        cases gk with
        | zero => exact absurd HA.out (by simp [laws_toExS.l0])
        | succ k1 =>
          have H := HA.out
          clear HA
          simp only [laws_toExS.l0] at H
          by_cases c6 : x4_1 < (l0.length : Int)
          · rw [if_pos c6] at H
            have c6b0 : decide (x4_1 < (l0.length : Int)) = true := decide_eq_true c6
            clear c6
            by_cases c7 : 0 ≤ x4_1
            · rw [if_pos c7] at H
              have c7b0 : decide (0 ≤ x4_1) = true := decide_eq_true c7
              clear c7
              replace H := Option.bind_eq_some_iff.mp H
              obtain ⟨⟨t121, t122, t123⟩, A80, H⟩ := H
              replace H : (if x4_1 < (x3_1.length : Int) then (laws_toExS.l0 k1 l0 (x3_1.set (x4_1 : Int).toNat (⟨t121, t122, t123⟩ : S31)) (wrap64 (x4_1 + 1))) else (none)) = some r := H
              have A8 := Aside0.mk A80
              clear A80
              by_cases c9 : x4_1 < (x3_1.length : Int)
              · rw [if_pos c9] at H
                have c9b0 : decide (x4_1 < (x3_1.length : Int)) = true := decide_eq_true c9
                clear c9
                obtain ⟨y126, hy126⟩ : ∃ y_ : List (S31), y_ = (x3_1.set (x4_1 : Int).toNat (⟨t121, t122, t123⟩ : S31)) := ⟨_, rfl⟩
                replace H : (laws_toExS.l0 k1 l0 y126 (wrap64 (x4_1 + 1))) = some r := by first | (rw [hy126]; with_reducible exact H) | (have H2_ := (Option.bind_some _ _).symm.trans H; rw [hy126]; with_reducible exact H2_) | (have H2_ := (Option.bind_some _ _).symm.trans H; with_reducible exact H2_) | with_reducible exact H | (rw [hy126]; exact H) | exact H
                have Ny126 := Aside0.mk hy126
                clear hy126
                have H' := Aside0.mk H
                clear H
                have p120 : 0 ≤ (x4_1 : Int) := of_decide_eq_true (by first | (with_reducible assumption) | assumption)
                have q120 : x4_1 < (l0.length : Int) := of_decide_eq_true (by first | (with_reducible assumption) | assumption)
                obtain ⟨ad120, A120_2, c120_2, e120, hx120_0, hx120_1, hx120_2, hl120_2, hi120_2⟩ := at_T24 HR0.out x4_1 p120 q120
                cases e120
                replace hx120_0 := (HB.out.cell (World.block_lt_of_cell? w _ hx120_0)).trans hx120_0
                replace hx120_1 := (HB.out.cell (World.block_lt_of_cell? w _ hx120_1)).trans hx120_1
                replace hx120_2 := (HB.out.cell (World.block_lt_of_cell? w _ hx120_2)).trans hx120_2
                have HR120_2 := Aside0.mk hi120_2
                have HC120_2 := Aside0.mk hl120_2
                clear hi120_2 hl120_2
                replace p120 := eq_true p120
                replace q120 := eq_true q120
                go_wp2_with (first | ((with_reducible refine gate_callee (f := 13) rfl ?_); refine goesL_ (some 20) rfl rfl Try.func13 (by kernel_rfl) rfl #[.agg #[.int .i64 ((rd_T24 l0 x4_1).f0), .int .i64 ((rd_T24 l0 x4_1).f1), .slice A120_2 ((rd_T24 l0 x4_1).f2).length c120_2]] rfl (by (try simp only [List.map_toArray, List.map_cons, List.map_nil]); first | done | rfl | (simp only [List.length_drop, List.length_take]; rfl)) ?_; (with_reducible refine (toS.calls_g k1 (fun A0 c0 l0 r w hr0 hc0 h => ih k1 (by first | omega | (have := HK1.out; omega) | (have := HJ1.out; omega) | (have := HK1.out; have := HJ1.out; omega) | (have := HK2.out; omega) | (have := HK1.out; have := HK2.out; omega)) A0 c0 l0 r w hr0 hc0 h) ((rd_T24 l0 x4_1).f0) ((rd_T24 l0 x4_1).f1) _ _ ((rd_T24 l0 x4_1).f2) t121 t122 t123 _ ?side1 ?side2 A8.out).mono ?_); (case side1 => repeat (first | exact (Kd.C_below HR120_2.out HB.out) | (with_reducible refine Kd.C_alloc ?_ _) | (with_reducible refine Kd.C_drewN ?_ _) | (with_reducible refine Kd.C_drew ?_))); (case side2 => exact HC120_2.out); rintro e w11 ⟨v124, rfl, ho0, hb⟩; refine ⟨_, rfl, ?_⟩; obtain ⟨N_, hoN_, hel_⟩ := S_tell hb ho0; have n0_ := Aside0.mk (hel_ (by (with_reducible repeat (first | apply Kd.S_alloc | apply Kd.S_drewN | apply Kd.S_drew)); exact HO_3.out)); have n1_ := Aside0.mk (Kd.S_lower (Kd.S_new' hoN_ (Kd.S_lt (by (with_reducible repeat (first | apply Kd.S_alloc | apply Kd.S_drewN | apply Kd.S_drew)); exact HO_3.out))) (below_size (by repeat (first | (with_reducible first | exact HB.out | apply below_alloc | apply pw_below_drewN | apply below_drew1) | exact HB.out)))); have n2_ := Aside0.mk (below_step (by repeat (first | (with_reducible first | exact HB.out | apply below_alloc | apply pw_below_drewN | apply below_drew1) | exact HB.out)) hb); clear HO_3; clear HB; have HO_3 := n0_; have HO125 := n1_; have HB := n2_; clear n0_ n1_ n2_; (try clear hb); (try clear hb2); (try clear hk); (try clear hi); (try clear ho0); have p10 : 0 ≤ (x4_1 : Int) := of_decide_eq_true (by first | (with_reducible assumption) | assumption); have q10 : (x4_1 : Int) < ((x3_1.length : Int) : Int) := of_decide_eq_true (by first | (with_reducible assumption) | assumption); obtain ⟨go10, co10, eo10, gb10, gl10, cl10, HG10⟩ := Kd.S_form HO_3.out (by omega); (first | cases eo10 | (injection eo10 with ea_ en_ ec_; (first | subst ea_ | (injection ea_ with ea_; subst ea_)); subst ec_; clear en_)); have GB10 := Aside0.mk gb10; have GG10 := Aside0.mk HG10; clear gb10 gl10 HG10; obtain ⟨oi10, ce10, hcl10, hM10, hcc10, hfr10, hoi10, hH10⟩ := Kd.S_elem HO_3.out z31 (x4_1 : Int) p10 q10; obtain ⟨ve10_2, rfl, ge10_2⟩ := kS31_openM hM10; have hx10_0 : w11.cell? ⟨go10, (x4_1 : Int).toNat * 3, none⟩ = some (.int .i64 ((rd_T31 x3_1 x4_1).f0)) := hcc10 0 _ rfl; have hx10_1 : w11.cell? ⟨go10, (x4_1 : Int).toNat * 3 + 1, none⟩ = some (.int .i64 ((rd_T31 x3_1 x4_1).f1)) := hcc10 1 _ rfl; have hx10_2 : w11.cell? ⟨go10, (x4_1 : Int).toNat * 3 + 2, none⟩ = some (ve10_2) := hcc10 2 _ rfl; have hf10_0 : w11.frozen? ⟨go10, (x4_1 : Int).toNat * 3, none⟩ = false := hfr10 0; have hf10_1 : w11.frozen? ⟨go10, (x4_1 : Int).toNat * 3 + 1, none⟩ = false := hfr10 1; have hf10_2 : w11.frozen? ⟨go10, (x4_1 : Int).toNat * 3 + 2, none⟩ = false := hfr10 2; clear hcl10 hcc10 hfr10 hoi10 hH10; (try clear hM10); replace p10 := eq_true p10; replace q10 := eq_true q10; have n_ := Aside0.mk (Kd.S_mono (ok' := (fun k_ => k_ < N_)) HO_3.out (fun k_ hk => hk.2)); clear HO_3; have HO_3 := n_; clear n_; have HX12 := Aside0.mk (show Kd.S kS31 31 w11 w.heap.size (fun k_ => True ∧ ¬ (N_ ≤ k_ ∧ k_ ≠ go10)) (.slice (some ⟨go10, 0, none⟩) x3_1.length co10) x3_1 from (by (with_reducible repeat (first | apply Kd.S_alloc | apply Kd.S_drewN | apply Kd.S_drew)); exact Kd.S_mono HO_3.out (fun _ hk => ⟨trivial, fun h_ => Nat.lt_irrefl _ (Nat.lt_of_lt_of_le hk h_.1)⟩))); obtain ⟨oi12, ce12, hcl12, hM12, hcc12, hfr12, hoi12, hH12⟩ := Kd.S_elem HX12.out z31 (x4_1 : Int) (of_decide_eq_true (by first | (with_reducible assumption) | assumption)) (by have h_ : (x4_1 : Int) < ((x3_1.length : Int) : Int) := of_decide_eq_true (by first | (with_reducible assumption) | assumption); first | exact h_ | (have e_ := (Kd.S_reads' HO_3.out).1; omega) | simpa using h_); obtain ⟨ve12_2, rfl, ge12_2⟩ := kS31_openM hM12; have HP12 := Kd.S_seg (ok := fun _ => True) (okg := fun k_ => N_ ≤ k_ ∧ k_ ≠ go10) (okp := fun k_ => N_ ≤ k_ ∧ k_ ≠ go10) hH12 (of_decide_eq_true (by first | (with_reducible assumption) | assumption)) (by have h_ : (x4_1 : Int) < ((x3_1.length : Int) : Int) := of_decide_eq_true (by first | (with_reducible assumption) | assumption); first | exact h_ | (have e_ := (Kd.S_reads' HO_3.out).1; omega) | simpa using h_) (seg := [.int .i64 t121, .int .i64 t122, v124]) (j := 0) (show 3 ≤ 3 from by decide) (x' := (⟨t121, t122, t123⟩ : S31)) (kS31_mkM _ _ _ (⟨t121, t122, t123⟩ : S31) (Kd.S_mono (HO125.out) (fun k_ hk => ⟨hk.1.2, fun e_ => hk.2 (by rw [e_]; rfl)⟩))) (fun _ hk => .inr hk) (fun _ hk => ⟨trivial, hk.2⟩); have hx12_0 := hcc12 0 _ rfl; (try simp only [show (kS31).sz = 3 from rfl, Nat.mul_one, Nat.add_zero] at hx12_0); have hf12_0 := hfr12 0; (try simp only [show (kS31).sz = 3 from rfl, Nat.mul_one, Nat.add_zero] at hf12_0); have hx12_1 := hcc12 1 _ rfl; (try simp only [show (kS31).sz = 3 from rfl, Nat.mul_one, Nat.add_zero] at hx12_1); have hf12_1 := hfr12 1; (try simp only [show (kS31).sz = 3 from rfl, Nat.mul_one, Nat.add_zero] at hf12_1); have hx12_2 := hcc12 2 _ rfl; (try simp only [show (kS31).sz = 3 from rfl, Nat.mul_one, Nat.add_zero] at hx12_2); have hf12_2 := hfr12 2; (try simp only [show (kS31).sz = 3 from rfl, Nat.mul_one, Nat.add_zero] at hf12_2); clear hcl12 hcc12 hfr12; (try clear hM12)) | ((with_reducible refine gate_store (t := 31) (p := 21) rfl ?_); refine store_event (t := 31) (p := 21) (v := ?vo_w13) (w1 := (((w11.setCell ⟨go10, (x4_1 : Int).toNat * 3, none⟩ (.int .i64 t121)).setCell ⟨go10, (x4_1 : Int).toNat * 3 + 1, none⟩ (.int .i64 t122)).setCell ⟨go10, (x4_1 : Int).toNat * 3 + 2, none⟩ (v124))) ?hg ?ho ?hn ?hr ?_; (case ho => rfl); (case hg => rfl); (case hn => rfl); (case hr => first | (go_simp; done) | (go_simp; rfl) | (obtain ⟨_, _, ev_⟩ := Kd.S_slice HO125.out; subst ev_; first | (go_simp; done) | (go_simp; rfl))); intro w13 hw; have hg : w11.grownBy w13 (some go10) := (by rw [hw]; exact HP12.2); have hp_ : Kd.S kS31 31 w13 w.heap.size (fun _ => True) (.slice (some ⟨go10, 0, none⟩) x3_1.length co10) y126 := (by rw [hw, Ny126.out]; exact HP12.1); clear HP12; have n0_ := Aside0.mk (hp_); have n1_ := Aside0.mk ((by rw [hw]; exact below_set (below_set (below_set (HB.out) GB10.out) GB10.out) GB10.out : Below w.heap.size w w13)); clear HO_3; clear HB; clear HO125; have HO_3 := n0_; have HB := n1_; clear n0_ n1_; clear hg hw hp_))
                go_roundg k1
                case measure => have := HK1.out; omega
                case rel => exact ⟨(y126), (wrap64 (x4_1 + 1)), (by first | rfl | (simp; done) | (simp [*]; done)), H', ⟨by have := HK1.out; omega⟩, ⟨by (with_reducible repeat (first | apply Kd.S_alloc | apply Kd.S_drewN | apply Kd.S_drew)); exact HO_3.out⟩, ⟨by repeat (first | (with_reducible first | exact HB.out | apply below_alloc | apply pw_below_drewN | apply below_drew1) | exact HB.out)⟩⟩
              · rw [if_neg c9] at H
                exact absurd H (by simp)
            · rw [if_neg c7] at H
              exact absurd H (by simp)
          · rw [if_neg c6] at H
            have c6b0 : decide (x4_1 < (l0.length : Int)) = false := decide_eq_false c6
            clear c6
            obtain rfl := Option.some.inj H
            go_wp2
            go_ret
            exact ⟨_, by first | rfl | (simp [errW_none, errW_some] <;> rfl) | (simp [*, errW_none, errW_some] <;> rfl), by (with_reducible repeat (first | apply Kd.S_alloc | apply Kd.S_drewN | apply Kd.S_drew)); exact HO_3.out, by repeat (first | (with_reducible first | exact HB.out | apply below_alloc | apply pw_below_drewN | apply below_drew1) | exact HB.out)⟩
    · rw [if_neg c3] at H
      exact absurd H (by simp)
  · rw [if_neg c2] at H
    exact absurd H (by simp)
def laws_toEx.f (k : Nat) (a0_0 : Int) (a0_1 : Int) (l0_2 : List (S24)) : Option (Int × Int × (List (S31))) := laws_toEx.g (laws_toExS.f k) a0_0 a0_1 l0_2
theorem laws_toEx.mono : ∀ a0 a1 a2 k, LeO (laws_toEx.f k a0 a1 a2) (laws_toEx.f (k + 1) a0 a1 a2) := by
  intro a0 a1 a2 k
  exact laws_toEx.mono_g _ _ (fun _ => laws_toExS.mono _ k) _ _ _
theorem toS.calls (k : Nat) (a0_0 : Int) (a0_1 : Int) (A0_2 : Option Addr) (c0_2 : Nat) (l0_2 : List (S24)) (r1 : Int) (r2 : Int) (r3 : List (S31)) (w : World) (hr0_2 : Kd.C k24 w A0_2 l0_2.length l0_2) (hc0_2 : l0_2.length ≤ c0_2) (h : laws_toEx.f k a0_0 a0_1 l0_2 = some (r1, r2, r3)) :
    Calls Try.prog 13 #[.agg #[.int .i64 a0_0, .int .i64 a0_1, .slice A0_2 l0_2.length c0_2]] w fun e w' => ∃ v2_ : Value, e = .returned (.agg #[.int .i64 r1, .int .i64 r2, v2_]) ∧ Kd.S kS31 31 w' w.heap.size (fun _ => True) v2_ r3 ∧ Below w.heap.size w w' :=
  toS.calls_g k (toSS.calls k) a0_0 a0_1 A0_2 c0_2 l0_2 r1 r2 r3 w hr0_2 hc0_2 h

-- NOT PRINTED: function 34 (laws_markExS)

-- NOT PRINTED: function 35 (laws_markEx)

/-! ### impl_isEx: function 60 -/
theorem heap2E (w : World) (a b : Obj) : ((w.alloc a).alloc b).heap[w.heap.size + 1]? = some b := by
  show ((w.heap.push a).push b)[w.heap.size + 1]? = some b
  rw [Array.getElem?_push]
  simp
theorem below2E (w : World) (a b : Obj) : Below w.heap.size w ((w.alloc a).alloc b) := by
  have h1 := (Below.refl w.heap.size w).alloc (Nat.le_refl _) a
  exact h1.alloc h1.size b
def impl_isEx.f (a0_0 a0_1 : Int) (l0_2 : List (S31)) : Option Bool := some (countE ⟨a0_0, a0_1, l0_2⟩ 1 0).1
set_option maxHeartbeats 4000000 in
set_option maxRecDepth 100000 in
theorem impl_isEx.calls (a0_0 : Int) (a0_1 : Int) (A0_2 : Option Addr) (c0_2 : Nat) (l0_2 : List (S31)) (r : Bool) (w : World) (hr0_2 : Kd.C k31 w A0_2 l0_2.length l0_2) (hc0_2 : l0_2.length ≤ c0_2) (h : impl_isEx.f a0_0 a0_1 l0_2 = some r) :
    Calls Try.prog 60 #[.agg #[.int .i64 a0_0, .int .i64 a0_1, .slice A0_2 l0_2.length c0_2]] w fun e w' => e = .returned (.bool r) ∧ Below w.heap.size w w' := by
  have hrr : (countE ⟨a0_0, a0_1, l0_2⟩ 1 0).1 = r := Option.some.inj h
  have hB := below2E w (.cells #[.int .i64 a0_0, .int .i64 a0_1, .slice A0_2 l0_2.length c0_2] 31) (.cells #[.int .i64 0] 3)
  have hcall := countE_calls _ ⟨a0_0, a0_1, l0_2⟩ (Nat.lt_succ_self _) 1 0 A0_2 c0_2 (w.heap.size + 1) w ((w.alloc (.cells #[.int .i64 a0_0, .int .i64 a0_1, .slice A0_2 l0_2.length c0_2] 31)).alloc (.cells #[.int .i64 0] 3)) hr0_2 hc0_2 hB (by omega) (heap2E w _ _)
  rw [hrr] at hcall
  have HB := Aside0.mk hB
  clear h hr0_2 hc0_2 hrr hB
  go_enter Try.func60, Try.ntmps60
  go_wp2_with (go_at_call 113; refine hcall.mono ?_; rintro e w' ⟨rfl, hb⟩)
  go_ret
  exact ⟨rfl, hb.base HB.out (by omega)⟩

/-! ### impl_areExs: function 80 -/
/-- whether an expression is right, as the program tells it -/
def exI (x : S31) : Bool := (countE x 1 0).1
set_option maxHeartbeats 4000000 in
set_option maxRecDepth 100000 in
theorem areExs_fn (x : S31) (A2 : Option Addr) (c2 : Nat) (w : World) (hr : Kd.C k31 w A2 x.f2.length x.f2) (hc : x.f2.length ≤ c2) :
    Calls Try.prog 121 #[.agg #[.int .i64 x.f0, .int .i64 x.f1, .slice A2 x.f2.length c2]] w fun e w' => e = .returned (.bool (!(exI x))) ∧ Below w.heap.size w w' := by
  obtain ⟨x0, x1, x2⟩ := x
  have hB : Below w.heap.size w (w.alloc (.cells #[.int .i64 x0, .int .i64 x1, .slice A2 x2.length c2] 31)) := (Below.refl _ _).alloc (Nat.le_refl _) _
  have hcall := impl_isEx.calls x0 x1 A2 c2 x2 (exI ⟨x0, x1, x2⟩) (w.alloc (.cells #[.int .i64 x0, .int .i64 x1, .slice A2 x2.length c2] 31)) (Kd.C_below hr hB) hc rfl
  have HB := Aside0.mk hB
  have hu := Try.underlying31
  clear hr hc hB
  generalize exI ⟨x0, x1, x2⟩ = b at hcall ⊢
  go_enter Try.func121, Try.ntmps121
  go_wp2_with (go_at_call 60; refine hcall.mono ?_; rintro e w' ⟨rfl, hb⟩)
  go_ret
  exact ⟨rfl, HB.out.trans (hb.mono HB.out.size)⟩
def impl_areExs.f (l0 : List (S31)) : Option Bool := some (l0.all exI)
set_option maxHeartbeats 4000000 in
set_option maxRecDepth 100000 in
theorem impl_areExs.calls (A0 : Option Addr) (c0 : Nat) (l0 : List (S31)) (r : Bool) (w : World) (hr0 : Kd.C k31 w A0 l0.length l0) (hc0 : l0.length ≤ c0) (h : impl_areExs.f l0 = some r) :
    Calls Try.prog 80 #[.slice A0 l0.length c0] w fun e w' => e = .returned (.bool r) ∧ Below w.heap.size w w' := by
  obtain rfl : l0.all exI = r := Option.some.inj h
  have hcall := any31 (fun _ W => Below w.heap.size w W) (fun i => !(exI (rd_T31 l0 (i : Int)))) l0 121 #[] (enters_of Try.func121 (by kernel_rfl) rfl) A0 c0 w (Kd.C_max hr0) (Below.refl _ _) w hr0 (fun _ _ h => h)
    (fun i hi _ W hW A2 c2 hd hc => (areExs_fn (rd_T31 l0 (i : Int)) A2 c2 W (Kd.C_below hd hW) hc).mono (by
      rintro e w' ⟨rfl, hb⟩
      exact ⟨rfl, hW.trans (hb.mono hW.size)⟩))
  have hans : ∀ (b : Bool) (m : Nat), ((b = false ∧ m = l0.length ∧ ∀ j, j < m → (!(exI (rd_T31 l0 (j : Int)))) = false) ∨ (b = true ∧ ∃ i, m = i + 1 ∧ (!(exI (rd_T31 l0 (i : Int)))) = true ∧ ∀ j, j < i → (!(exI (rd_T31 l0 (j : Int)))) = false)) → m ≤ l0.length → (!b) = l0.all exI := by
    rintro b m (⟨rfl, rfl, h1⟩ | ⟨rfl, i, rfl, h1, h2⟩) hm
    · symm
      rw [Bool.not_false, List.all_eq_true]
      intro x hx
      obtain ⟨j, hj, rfl⟩ := List.getElem_of_mem hx
      have hr : rd_T31 l0 (j : Int) = l0[j] := by unfold rd_T31; simp [List.getD, hj]
      have := h1 j hj
      rw [hr] at this
      simpa using this
    · have hi : i < l0.length := by omega
      have hr : rd_T31 l0 (i : Int) = l0[i] := by unfold rd_T31; simp [List.getD, hi]
      rw [hr] at h1
      cases hb : l0.all exI with
      | false => rfl
      | true =>
        rw [List.all_eq_true] at hb
        rw [hb _ (List.getElem_mem hi)] at h1
        cases h1
  have HA := Aside0.mk hans
  clear h hr0 hc0 hans
  go_enter Try.func80, Try.ntmps80
  go_wp2_with (go_at_call 120; refine hcall.mono ?_; rintro e w' ⟨b, rfl, m, hm, hb, hq⟩)
  go_ret
  rw [← HA.out b m hq hm]
  exact ⟨rfl, hb⟩

end Go.Proofs.Ytcmkkoggdcjceaa.PFnExactAtMostEx
