/- FnExactBuildAig: for every input the law returns true. The texts that this program's session printed and proved for it, those that the proof uses, laid together. Conditions: the form's own reach alone. -/
import Derived.Test.YtcmkkoggdcjceaaQFnExactBuildAig2
import Derived.Deep.Slices
import Derived.ChangeArms
import Derived.SizedLaws
import Derived.Test.YtcmkkoggdcjceaaRows
import Derived.WalkKit
import Derived.ProofKit
import Derived.OpenShut
import Derived.ShutString
import Derived.ChangeOld
import Derived.Below
section
namespace Go.Proofs.Ytcmkkoggdcjceaa.PFnExactBuildAig
open Go.RowKit Go.Proofs.YtcmkkoggdcjceaaW.PrintWords Go.Proofs.YtcmkkoggdcjceaaW.PrintLast Go.Proofs.YtcmkkoggdcjceaaW.PrintMore
attribute [local go_sem] max2_int min2_int max_two min_two max_three min_three max_four min_four   -- for this text's walks alone
set_option linter.unusedVariables false
set_option linter.unusedSimpArgs false
def chkS (K : Nat) (n : Int) : List S31 → Option Int
 | [] => some 0
 | x :: r => (spec_ExOK.f K x.f0 x.f1 x.f2).bind fun t => if t = true then (spec_l04Most.f K x.f0 x.f1 x.f2).bind fun m => if m ≥ n then some 5 else chkS K n r else some 1
def outS (n : Int) : List S31 → List Int → List S114 → Option (Int × List Int × List S114)
 | [], ls, gs => some (0, ls, gs)
 | x :: r, ls, gs => if ls.length ≤ 5000 then (mkS n 41 x.f0 x.f1 x.f2 gs).bind fun p => if (p.2.length : Int) > 400 then some (11, [], []) else outS n r (ls ++ [p.1]) p.2 else none
def spec_BuildAig.f (K : Nat) (n : Int) (l : List S31) : Option (Int × List S114 × List Int × Int) :=
 if (l.length : Int) > 4096 then some (0, [], [], 2) else (spec_l01In.f n 0 12).bind fun t => if t = true then (chkS K n l).bind fun c => if c = 0 then (outS n l [] []).bind fun q => if q.1 = 0 then some (n, q.2.2, q.2.1, 0) else some (0, [], [], q.1) else some (0, [], [], c) else some (0, [], [], 5)
set_option maxHeartbeats 8000000 in
set_option maxRecDepth 100000 in
theorem spec_BuildAig.calls (Kf : Nat) (n : Int) (A : Option Addr) (c : Nat) (l : List S31) (r1 : Int) (r2 : List S114) (r3 : List Int) (r4 : Int) (w : World) (hC : Kd.C k31 w A l.length l) (hc : l.length ≤ c) (h : spec_BuildAig.f Kf n l = some (r1, r2, r3, r4)) :
  Calls Try.prog 53 #[.int .i64 n, .slice A l.length c] w fun e W' => ∃ vg vl, e = .returned (.tuple #[.agg #[.int .i64 r1, vg], vl, .int .i64 r4]) ∧ Kd.R k114 114 W' w.heap.size (fun _ => True) vg r2 ∧ Kd.R (Kd.int .i64) 3 W' w.heap.size (fun _ => True) vl r3 ∧ Below w.heap.size w W' := by
 have hu31 := Try.underlying31
 have hu46 := Try.underlying46
 have hu128 := Try.underlying128
 unfold spec_BuildAig.f at h
 have HC := Aside0.mk hC
 clear hC
 obtain ⟨g, hg⟩ : ∃ g, w.heap.size = g := ⟨_, rfl⟩
 go_enter Try.func53, Try.ntmps53
 go_upto_region 1 with fail
 have hb2 : Below w.heap.size w (w.alloc (.cells #[.int .i64 0, .slice none 0 0] 46)) := below_alloc (Below.refl _ _) _
 have k1 : (w.alloc (.cells #[.int .i64 0, .slice none 0 0] 46)).heap[g]? = some (.cells #[.int .i64 0, .slice none 0 0] 46 (0, 0)) := by rw [← hg]; exact blk_new w _
 generalize w.alloc (.cells #[.int .i64 0, .slice none 0 0] 46) = w2 at hb2 k1 ⊢
 have HG := Aside0.mk hg
 have HGE := Aside0.mk (Nat.le_of_eq hg)
 have HB2 := Aside0.mk hb2
 have HK2 := Aside0.mk k1
 clear hg hb2 k1
 by_cases hgt : (l.length : Int) > 4096
 ·rw [if_pos hgt] at h
  cases h
  go_upto_region 2 with fail
  go_wp2_with ((with_reducible refine gate_dst (N := 15) rfl ?_); refine Kd.R_lit (Kd.int .i64) (w0 := w) w.heap.size 3 ?hg (N := 15) ?hd (xs := ([] : List Int)) (inner := []) (ok := fun _ => True) (okp := fun _ => False) ?hr ?hp (fun _ hk => hk.elim) trivial HB2.out HB2.out.size (by simp) ?_; (case hd => rfl); (case hg => rfl); (case hr => first | (go_simp; done) | (go_simp; rfl)); (case hp => exact Reps.none _ _); intro v87 w87 ho hb hg_ hnew_; have HLz := Aside0.mk ho; have HBz := Aside0.mk hb; have HKz := Aside0.mk (blk_grown HK2.out hg_ (by simp)); have y0 := (blk_cell HKz.out 0).trans (show _ = some (.int .i64 0) from rfl); have y1 := (blk_cell HKz.out 1).trans (show _ = some (.slice none 0 0) from rfl); have z0 := blk_frozen HKz.out 0; have z1 := blk_frozen HKz.out 1; clear ho hb hg_ hnew_)
  have hz := heap_set (j := 1) (u := .slice none 0 0) (heap_set (j := 0) (u := .int .i64 0) HKz.out)
  (try simp only [Exit.inBlock, Exit.then])
  refine bodyPost_ret (results_ctt rfl _ _ g 46 #[.int .i64 0, .slice none 0 0] (0, 0) _ rfl hz Try.underlying46 rfl (by kernel_rfl)) rfl ?_
  exact ⟨_, _, rfl, Kd.R_nil _ _ _ _ _, Kd.R_set (Kd.R_set HLz.out HKz.out (by decide) 0 _) (heap_set HKz.out) (by decide) 1 _, (HBz.out.setCell (p := ⟨g, 0, none⟩) HGE.out _).setCell (p := ⟨g, 1, none⟩) HGE.out _⟩
 rw [if_neg hgt] at h
 have hlen : l.length ≤ 5000 := by omega
 obtain ⟨t, ht, h2⟩ := Option.bind_eq_some_iff.1 h
 clear h
 have hwi2 := spec_l01In.calls n 0 12 t w2 ht
 clear ht
 cases t with
 | false =>
  rw [if_neg (by decide)] at h2
  cases h2
  go_upto_region 4 with (go_at_call 76; refine hwi2.mono ?_; rintro e w3 ⟨rfl, hd⟩; clear hwi2; have HB3 := Aside0.mk (HB2.out.trans (hd.below.mono HB2.out.size)); have HK3 := Aside0.mk (blk_below HK2.out hd.below); clear hd)
  go_wp2_with ((with_reducible refine gate_dst (N := 20) rfl ?_); refine Kd.R_lit (Kd.int .i64) (w0 := w) w.heap.size 3 ?hg (N := 20) ?hd (xs := ([] : List Int)) (inner := []) (ok := fun _ => True) (okp := fun _ => False) ?hr ?hp (fun _ hk => hk.elim) trivial HB3.out HB3.out.size (by simp) ?_; (case hd => rfl); (case hg => rfl); (case hr => first | (go_simp; done) | (go_simp; rfl)); (case hp => exact Reps.none _ _); intro v87 w87 ho hb hg_ hnew_; have HLz := Aside0.mk ho; have HBz := Aside0.mk hb; have HKz := Aside0.mk (blk_grown HK3.out hg_ (by simp)); have y0 := (blk_cell HKz.out 0).trans (show _ = some (.int .i64 0) from rfl); have y1 := (blk_cell HKz.out 1).trans (show _ = some (.slice none 0 0) from rfl); have z0 := blk_frozen HKz.out 0; have z1 := blk_frozen HKz.out 1; clear ho hb hg_ hnew_)
  have hz := heap_set (j := 1) (u := .slice none 0 0) (heap_set (j := 0) (u := .int .i64 0) HKz.out)
  (try simp only [Exit.inBlock, Exit.then])
  refine bodyPost_ret (results_ctt rfl _ _ g 46 #[.int .i64 0, .slice none 0 0] (0, 0) _ rfl hz Try.underlying46 rfl (by kernel_rfl)) rfl ?_
  exact ⟨_, _, rfl, Kd.R_nil _ _ _ _ _, Kd.R_set (Kd.R_set HLz.out HKz.out (by decide) 0 _) (heap_set HKz.out) (by decide) 1 _, (HBz.out.setCell (p := ⟨g, 0, none⟩) HGE.out _).setCell (p := ⟨g, 1, none⟩) HGE.out _⟩
 | true =>
  rw [if_pos rfl] at h2
  obtain ⟨cd, hcd, h⟩ := Option.bind_eq_some_iff.1 h2
  have HCD := Aside0.mk hcd
  have HH := Aside0.mk h
  clear h2 hcd h
  go_upto_region 6 with (go_at_call 76; refine hwi2.mono ?_; rintro e w3 ⟨rfl, hd⟩; clear hwi2; have HB3 := Aside0.mk (HB2.out.trans (hd.below.mono HB2.out.size)); have HK3 := Aside0.mk (blk_below HK2.out hd.below); clear hd)
  go_loopg [7] l.length (fun gg v7 wr => ∃ (i : Nat), v7 = .int .i64 i ∧ i ≤ l.length ∧ l.length - i ≤ gg ∧ Aside0 (chkS Kf n (l.drop i) = some cd) ∧ Aside0 (Below w.heap.size w wr) ∧ Aside0 (wr.heap[g]? = some (.cells #[.int .i64 0, .slice none 0 0] 46 (0, 0))))
  case atStart => exact ⟨0, rfl, Nat.zero_le _, by omega, HCD, HB3, HK3⟩
  case round =>
   clear HCD HB3 HK3
   obtain ⟨i, rfl, hi, hgk, HCD, HB, HK⟩ := hrel
   by_cases hlt : i < l.length
   ·have hltz : (i : Int) < (l.length : Int) := by omega
    have h0z : (0 : Int) ≤ (i : Int) := by omega
    obtain ⟨ad, A2, c2, ea, hx0, hx1, hx2, hlc2, hC2⟩ := at_T31 HC.out (i : Int) h0z hltz
    subst ea
    have hrd : rd_T31 l (i : Int) = l[i] := by unfold rd_T31; simp [List.getD, hlt]
    rw [Int.toNat_natCast, hrd] at hx0 hx1 hx2
    rw [hrd] at hlc2 hC2
    replace hx0 := (HB.out.cell (World.block_lt_of_cell? w _ hx0)).trans hx0
    replace hx1 := (HB.out.cell (World.block_lt_of_cell? w _ hx1)).trans hx1
    replace hx2 := (HB.out.cell (World.block_lt_of_cell? w _ hx2)).trans hx2
    have HC2 := Aside0.mk (And.intro hC2 hlc2)
    clear hC2 hlc2 hrd
    have hcd := HCD.out
    rw [List.drop_eq_getElem_cons hlt, chkS] at hcd
    obtain ⟨tx, htx, hcd2⟩ := Option.bind_eq_some_iff.1 hcd
    have HTX := Aside0.mk htx
    have HCD2 := Aside0.mk hcd2
    clear hcd htx hcd2 HCD
    generalize l[i] = x at hx0 hx1 hx2 HTX HCD2 HC2
    have hex := spec_ExOK.calls Kf x.f0 x.f1 A2 c2 x.f2 tx wr (Kd.C_below HC2.out.1 HB.out) HC2.out.2 HTX.out
    have hcd2 := HCD2.out
    cases tx with
    | false =>
     rw [if_neg (by decide)] at hcd2
     cases hcd2
     have h := HH.out
     rw [if_neg (by decide)] at h
     cases h
     clear HTX HCD2
     go_upto_region 9 with (go_at_call 57; refine hex.mono ?_; rintro e w6 ⟨rfl, hb6⟩; clear hex; have HB6 := Aside0.mk (HB.out.trans (hb6.mono HB.out.size)); have HK6 := Aside0.mk (blk_below HK.out hb6); clear hb6 hx0 hx1 hx2)
     go_wp2_with ((with_reducible refine gate_dst (N := 34) rfl ?_); refine Kd.R_lit (Kd.int .i64) (w0 := w) w.heap.size 3 ?hg (N := 34) ?hd (xs := ([] : List Int)) (inner := []) (ok := fun _ => True) (okp := fun _ => False) ?hr ?hp (fun _ hk => hk.elim) trivial HB6.out HB6.out.size (by simp) ?_; (case hd => rfl); (case hg => rfl); (case hr => first | (go_simp; done) | (go_simp; rfl)); (case hp => exact Reps.none _ _); intro v87 w87 ho hb hg_ hnew_; have HLz := Aside0.mk ho; have HBz := Aside0.mk hb; have HKz := Aside0.mk (blk_grown HK6.out hg_ (by simp)); have y0 := (blk_cell HKz.out 0).trans (show _ = some (.int .i64 0) from rfl); have y1 := (blk_cell HKz.out 1).trans (show _ = some (.slice none 0 0) from rfl); have z0 := blk_frozen HKz.out 0; have z1 := blk_frozen HKz.out 1; clear ho hb hg_ hnew_)
     have hz := heap_set (j := 1) (u := .slice none 0 0) (heap_set (j := 0) (u := .int .i64 0) HKz.out)
     (try simp only [Exit.inBlock, Exit.then])
     refine bodyPost_ret (results_ctt rfl _ _ g 46 #[.int .i64 0, .slice none 0 0] (0, 0) _ rfl hz Try.underlying46 rfl (by kernel_rfl)) rfl ?_
     exact ⟨_, _, rfl, Kd.R_nil _ _ _ _ _, Kd.R_set (Kd.R_set HLz.out HKz.out (by decide) 0 _) (heap_set HKz.out) (by decide) 1 _, (HBz.out.setCell (p := ⟨g, 0, none⟩) HGE.out _).setCell (p := ⟨g, 1, none⟩) HGE.out _⟩
    | true =>
     rw [if_pos rfl] at hcd2
     obtain ⟨m, hm, hcd3⟩ := Option.bind_eq_some_iff.1 hcd2
     have HM_ := Aside0.mk hm
     clear hcd2 hm HTX HCD2
     have HX := Aside0.mk (And.intro hx0 (And.intro hx1 hx2))
     go_upto_region 10 with (go_at_call 57; refine hex.mono ?_; rintro e w6 ⟨rfl, hb6⟩; clear hex; have HB6 := Aside0.mk (HB.out.trans (hb6.mono HB.out.size)); have HK6 := Aside0.mk (blk_below HK.out hb6); clear hx0 hx1 hx2; have hx0 := (hb6.cell (World.block_lt_of_cell? wr _ HX.out.1)).trans HX.out.1; have hx1 := (hb6.cell (World.block_lt_of_cell? wr _ HX.out.2.1)).trans HX.out.2.1; have hx2 := (hb6.cell (World.block_lt_of_cell? wr _ HX.out.2.2)).trans HX.out.2.2; clear hb6)
     have hmv := spec_l04Most.calls Kf x.f0 x.f1 A2 c2 x.f2 m w6 (Kd.C_below HC2.out.1 HB6.out) HC2.out.2 HM_.out
     by_cases hmn : m ≥ n
     ·rw [if_pos hmn] at hcd3
      cases hcd3
      have h := HH.out
      rw [if_neg (by decide)] at h
      cases h
      go_upto_region 11 with (go_at_call 58; refine hmv.mono ?_; rintro e w7 ⟨rfl, hb7⟩; clear hmv; have HB7 := Aside0.mk (HB6.out.trans (hb7.mono HB6.out.size)); have HK7 := Aside0.mk (blk_below HK6.out hb7); clear hb7 hx0 hx1 hx2)
      go_wp2_with ((with_reducible refine gate_dst (N := 43) rfl ?_); refine Kd.R_lit (Kd.int .i64) (w0 := w) w.heap.size 3 ?hg (N := 43) ?hd (xs := ([] : List Int)) (inner := []) (ok := fun _ => True) (okp := fun _ => False) ?hr ?hp (fun _ hk => hk.elim) trivial HB7.out HB7.out.size (by simp) ?_; (case hd => rfl); (case hg => rfl); (case hr => first | (go_simp; done) | (go_simp; rfl)); (case hp => exact Reps.none _ _); intro v87 w87 ho hb hg_ hnew_; have HLz := Aside0.mk ho; have HBz := Aside0.mk hb; have HKz := Aside0.mk (blk_grown HK7.out hg_ (by simp)); have y0 := (blk_cell HKz.out 0).trans (show _ = some (.int .i64 0) from rfl); have y1 := (blk_cell HKz.out 1).trans (show _ = some (.slice none 0 0) from rfl); have z0 := blk_frozen HKz.out 0; have z1 := blk_frozen HKz.out 1; clear ho hb hg_ hnew_)
      have hz := heap_set (j := 1) (u := .slice none 0 0) (heap_set (j := 0) (u := .int .i64 0) HKz.out)
      (try simp only [Exit.inBlock, Exit.then])
      refine bodyPost_ret (results_ctt rfl _ _ g 46 #[.int .i64 0, .slice none 0 0] (0, 0) _ rfl hz Try.underlying46 rfl (by kernel_rfl)) rfl ?_
      exact ⟨_, _, rfl, Kd.R_nil _ _ _ _ _, Kd.R_set (Kd.R_set HLz.out HKz.out (by decide) 0 _) (heap_set HKz.out) (by decide) 1 _, (HBz.out.setCell (p := ⟨g, 0, none⟩) HGE.out _).setCell (p := ⟨g, 1, none⟩) HGE.out _⟩
     ·rw [if_neg hmn] at hcd3
      have HCD3 := Aside0.mk hcd3
      clear hcd3
      have ew : IntKind.i64.wrap ((i : Int) + 1) = ((i + 1 : Nat) : Int) := IntWalk.i64_in _ (by omega)
      go_wp2_with (go_at_call 58; refine hmv.mono ?_; rintro e w7 ⟨rfl, hb7⟩; clear hmv; have HB7 := Aside0.mk (HB6.out.trans (hb7.mono HB6.out.size)); have HK7 := Aside0.mk (blk_below HK6.out hb7); clear hb7 hx0 hx1 hx2)
      go_roundg (gk - 1)
      case measure => omega
      case rel => exact ⟨i + 1, rfl, by omega, by omega, HCD3, HB7, HK7⟩
   ·obtain rfl : i = l.length := by omega
    have hcd := HCD.out
    rw [List.drop_length, chkS] at hcd
    cases hcd
    have h := HH.out
    rw [if_pos rfl] at h
    obtain ⟨⟨q1, q2, q3⟩, hq, h⟩ := Option.bind_eq_some_iff.1 h
    simp only at h
    have HQ := Aside0.mk hq
    have HQ2 := Aside0.mk h
    clear h hq HCD HH hlt
    obtain ⟨b, hb⟩ : ∃ b, wr.heap.size = b := ⟨_, rfl⟩
    go_upto_region 13 with fail
    have hb8 : Below wr.heap.size wr (wr.alloc (.cells #[.int .i64 n, .slice none 0 0] 128)) := below_alloc (Below.refl _ _) _
    have k8 : (wr.alloc (.cells #[.int .i64 n, .slice none 0 0] 128)).heap[b]? = some (.cells #[.int .i64 n, .slice none 0 0] 128 (0, 0)) := by rw [← hb]; exact blk_new wr _
    generalize wr.alloc (.cells #[.int .i64 n, .slice none 0 0] 128) = w8 at hb8 k8 ⊢
    have HB8 := Aside0.mk (HB.out.trans (hb8.mono HB.out.size))
    have HK8 := Aside0.mk (blk_below HK.out hb8)
    have HM8 := Aside0.mk (show MK 128 w w8 b n (fun _ => True) (.slice none 0 0) [] from ⟨HB8.out, by rw [← hb]; exact HB.out.size, k8, Kd.R_nil _ _ _ _ _⟩)
    clear hb hb8 k8 HB HK
    go_upto_region 14 with ((with_reducible refine gate_dst (N := 48) rfl ?_); refine Kd.R_lit (Kd.int .i64) (w0 := w) w.heap.size 3 ?hg (N := 48) ?hd (xs := ([] : List Int)) (inner := []) (ok := fun _ => True) (okp := fun _ => False) ?hr ?hp (fun _ hk => hk.elim) trivial HB8.out HB8.out.size (by simp) ?_; (case hd => rfl); (case hg => rfl); (case hr => first | (go_simp; done) | (go_simp; rfl)); (case hp => exact Reps.none _ _); intro v87 w87 ho hb hg_ hnew_; have HL9 := Aside0.mk ho; have HB9 := Aside0.mk hb; have HK9 := Aside0.mk (blk_grown HK8.out hg_ (by simp)); have HM9 := Aside0.mk (show MK 128 w w87 b n (fun _ => True) (.slice none 0 0) [] from ⟨hb, HM8.out.old, blk_grown HM8.out.blk hg_ (by simp), Kd.R_nil _ _ _ _ _⟩); clear HB8 HK8 HM8; clear ho hb hg_ hnew_)
    go_wp2
    go_loopg [9, 10] l.length (fun gg v9 v10 wr => ∃ (i : Nat) (ls : List Int) (vi : Value) (gi : List S114), v10 = .int .i64 i ∧ i ≤ l.length ∧ l.length - i ≤ gg ∧ Aside0 (outS n (l.drop i) ls gi = some (q1, q2, q3)) ∧ Aside0 (Kd.R (Kd.int .i64) 3 wr w.heap.size (fun _ => True) v9 ls) ∧ Aside0 (MK 128 w wr b n (fun _ => True) vi gi) ∧ Aside0 (Below w.heap.size w wr) ∧ Aside0 (wr.heap[g]? = some (.cells #[.int .i64 0, .slice none 0 0] 46 (0, 0))))
    case atStart => exact ⟨0, [], _, [], rfl, Nat.zero_le _, by omega, HQ, HL9, HM9, HB9, HK9⟩
    case round =>
     clear HQ HL9 HM9 HB9 HK9
     obtain ⟨i, ls, vi, gi, rfl, hi, hgk, HQ, HL, HM, HB, HK⟩ := hrel
     by_cases hlt : i < l.length
     ·have hltz : (i : Int) < (l.length : Int) := by omega
      have h0z : (0 : Int) ≤ (i : Int) := by omega
      obtain ⟨ad, A2, c2, ea, hx0, hx1, hx2, hlc2, hC2⟩ := at_T31 HC.out (i : Int) h0z hltz
      subst ea
      have hrd : rd_T31 l (i : Int) = l[i] := by unfold rd_T31; simp [List.getD, hlt]
      rw [Int.toNat_natCast, hrd] at hx0 hx1 hx2
      rw [hrd] at hlc2 hC2
      replace hx0 := (HB.out.cell (World.block_lt_of_cell? w _ hx0)).trans hx0
      replace hx1 := (HB.out.cell (World.block_lt_of_cell? w _ hx1)).trans hx1
      replace hx2 := (HB.out.cell (World.block_lt_of_cell? w _ hx2)).trans hx2
      have HC2 := Aside0.mk (And.intro hC2 hlc2)
      clear hC2 hlc2 hrd
      have hq := HQ.out
      rw [List.drop_eq_getElem_cons hlt, outS] at hq
      have hll : ls.length ≤ 5000 := by
       by_cases h9 : ls.length ≤ 5000
       ·exact h9
       ·rw [if_neg h9] at hq; cases hq
      rw [if_pos hll] at hq
      obtain ⟨⟨p1, p2⟩, hgo, hq3⟩ := Option.bind_eq_some_iff.1 hq
      simp only at hq3
      have HGO := Aside0.mk hgo
      have HQ3 := Aside0.mk hq3
      have HLL := Aside0.mk hll
      clear hq hgo hq3 hll HQ
      generalize l[i] = x at hx0 hx1 hx2 HGO HC2
      have hbl := make_any n w b 41 x.f0 x.f1 A2 c2 x.f2 (fun _ => True) vi gi p1 p2 wr HC2.out.1 HC2.out.2 HM.out HGO.out
      go_upto_region 18 with (first
       | (go_at_call 108; refine hbl.mono ?_; rintro e w6 ⟨rfl, v6, hm6⟩; clear hbl; have HM6 := Aside0.mk hm6.now_.any; have HK6 := Aside0.mk (hm6.other HM.out HK.out (by decide) (by decide)); have HL6 := Aside0.mk (hm6.ints HM.out (by decide) HL.out); have HB6 := Aside0.mk hm6.now_.base; clear hm6 hx0 hx1 hx2 HM HK HL HB)
       | ((with_reducible refine gate_builtin (b := .append) (xs := #[.tmp 55, .tmp 62]) rfl ?_); at_builtin; refine Kd.R_append (Kd.int .i64) (w0 := w) w.heap.size rfl (.tmp 55) (.tmp 62) 40 3 (.int .i64 0) 8 rfl Try.underlying40 inf3 rfl (by decide) (by omega) u9 ls p1 [.int .i64 p1] (fun _ => True) (fun _ => False) rfl rfl ?aP (fun _ hk => hk.elim) ?aF ?aO ?aB ?aS ?aL ?_; (case aP => exact rfl); (case aF => exact fun _ _ => trivial); (case aO => exact HL6.out); (case aB => exact HB6.out); (case aS => exact HB6.out.size); (case aL => have := HLL.out; omega); intro v1 w7 ho hb hg2 hat; have HL7 := Aside0.mk ho; have HB7 := Aside0.mk hb; have HK7 := Aside0.mk (blk_grown HK6.out hg2 (Kd.R_ne HL6.out HK6.out (by decide))); have HM7 := Aside0.mk (show MK 128 w w7 b n (fun _ => True) v6 p2 from ⟨hb, HM6.out.old, blk_grown HM6.out.blk hg2 (Kd.R_ne HL6.out HM6.out.blk (by decide)), Kd.R_grown2 HM6.out.row rfl hg2 (fun k hk e => by (obtain ⟨cs1, hcs1⟩ := Kd.R_typed HL6.out k hk); (obtain ⟨cs2, hcs2⟩ := Kd.R_typed HM6.out.row k e.symm); (rw [hcs1] at hcs2); (cases hcs2))⟩); clear ho hb hg2 hat HM6 HK6 HL6 HB6))
      obtain ⟨A6, c6, e6⟩ := Kd.R_slice HM7.out.row
      subst e6
      have x1 := HM7.out.cells.2
      have hq3 := HQ3.out
      by_cases hgt4 : (p2.length : Int) > 400
      ·rw [if_pos hgt4] at hq3
       cases hq3
       have h := HQ2.out
       rw [if_neg (by decide)] at h
       cases h
       go_upto_region 19 with fail
       clear x1
       go_wp2_with ((with_reducible refine gate_dst (N := 72) rfl ?_); refine Kd.R_lit (Kd.int .i64) (w0 := w) w.heap.size 3 ?hg (N := 72) ?hd (xs := ([] : List Int)) (inner := []) (ok := fun _ => True) (okp := fun _ => False) ?hr ?hp (fun _ hk => hk.elim) trivial HB7.out HB7.out.size (by simp) ?_; (case hd => rfl); (case hg => rfl); (case hr => first | (go_simp; done) | (go_simp; rfl)); (case hp => exact Reps.none _ _); intro v87 w87 ho hb hg_ hnew_; have HLz := Aside0.mk ho; have HBz := Aside0.mk hb; have HKz := Aside0.mk (blk_grown HK7.out hg_ (by simp)); have y0 := (blk_cell HKz.out 0).trans (show _ = some (.int .i64 0) from rfl); have y1 := (blk_cell HKz.out 1).trans (show _ = some (.slice none 0 0) from rfl); have z0 := blk_frozen HKz.out 0; have z1 := blk_frozen HKz.out 1; clear ho hb hg_ hnew_)
       have hz := heap_set (j := 1) (u := .slice none 0 0) (heap_set (j := 0) (u := .int .i64 0) HKz.out)
       (try simp only [Exit.inBlock, Exit.then])
       refine bodyPost_ret (results_ctt rfl _ _ g 46 #[.int .i64 0, .slice none 0 0] (0, 0) _ rfl hz Try.underlying46 rfl (by kernel_rfl)) rfl ?_
       exact ⟨_, _, rfl, Kd.R_nil _ _ _ _ _, Kd.R_set (Kd.R_set HLz.out HKz.out (by decide) 0 _) (heap_set HKz.out) (by decide) 1 _, (HBz.out.setCell (p := ⟨g, 0, none⟩) HGE.out _).setCell (p := ⟨g, 1, none⟩) HGE.out _⟩
      ·rw [if_neg hgt4] at hq3
       have HQ4 := Aside0.mk hq3
       clear hq3 HQ3
       have ew : IntKind.i64.wrap ((i : Int) + 1) = ((i + 1 : Nat) : Int) := IntWalk.i64_in _ (by omega)
       go_wp2
       go_roundg (gk - 1)
       case measure => omega
       case rel => exact ⟨i + 1, ls ++ [p1], _, p2, rfl, by omega, by omega, HQ4, HL7, HM7, HB7, HK7⟩
     ·obtain rfl : i = l.length := by omega
      have hq := HQ.out
      rw [List.drop_length, outS] at hq
      cases hq
      have h := HQ2.out
      rw [if_pos rfl] at h
      cases h
      obtain ⟨A6, c6, e6⟩ := Kd.R_slice HM.out.row
      subst e6
      have x0 := HM.out.cells.1
      have x1 := HM.out.cells.2
      have y0 := (blk_cell HK.out 0).trans (show _ = some (.int .i64 0) from rfl)
      have y1 := (blk_cell HK.out 1).trans (show _ = some (.slice none 0 0) from rfl)
      have z0 := blk_frozen HK.out 0
      have z1 := blk_frozen HK.out 1
      go_wp2
      have hz := heap_set (j := 1) (u := .slice A6 r2.length c6) (heap_set (j := 0) (u := .int .i64 n) HK.out)
      (try simp only [Exit.inBlock, Exit.then])
      refine bodyPost_ret (results_ctt rfl _ _ g 46 #[.int .i64 n, .slice A6 r2.length c6] (0, 0) _ rfl hz Try.underlying46 rfl (by kernel_rfl)) rfl ?_
      exact ⟨_, _, rfl, Kd.R_set (Kd.R_set HM.out.row HK.out (by decide) 0 _) (heap_set HK.out) (by decide) 1 _, Kd.R_set (Kd.R_set HL.out HK.out (by decide) 0 _) (heap_set HK.out) (by decide) 1 _, (HB.out.setCell (p := ⟨g, 0, none⟩) HGE.out _).setCell (p := ⟨g, 1, none⟩) HGE.out _⟩
def laws_heldGateS.l0 : Nat → List (S114) → Int → Int → Option (Int)
 | 0, _, _, _ => none
 | k + 1, x0, x1, x5 => if x5 < (x0.length : Int) then (if 0 ≤ x5 then (if ((rd_T114 x0 x5).f0) = x1 then (if ((rd_T114 x0 x5).f1) = (wrap64 (x1 + 1)) then (laws_heldGateS.l0 k x0 (wrap64 ((wrap64 (x1 + 1)) + 1)) (wrap64 (x5 + 1))) else (some (-1))) else (some (-1))) else (none)) else (some x1)
def laws_heldGateS.f (k : Nat) (l0 : List (S114)) (a1 : Int) : Option (Int) := laws_heldGateS.l0 k l0 a1 0
set_option maxHeartbeats 8000000 in
set_option maxRecDepth 100000 in
theorem laws_heldGateS.calls (k : Nat) (A0 : Option Addr) (c0 : Nat) (l0 : List (S114)) (a1 : Int) (r : Int) (w : World) (hr0 : Kd.C k114 w A0 l0.length l0) (hc0 : l0.length ≤ c0) (h : laws_heldGateS.f k l0 a1 = some r) :
  Calls Try.prog 110 #[.slice A0 l0.length c0, .int .i64 a1] w fun e w' => e = .returned (.int .i64 r) ∧ Drawn0 w w' := by
 have HR0 := Aside0.mk hr0
 have HC0 := Aside0.mk hc0
 clear hr0 hc0
 have H : (laws_heldGateS.l0 k l0 a1 0) = some r := h
 clear h
 have H' := Aside0.mk H
 clear H
 go_enter Try.func110, Try.ntmps110
 go_wp2
 go_loopg [1, 5] k (fun kq v1 v5 w' => ∃ (x1_1 : Int) (x5_1 : Int), v1 = .int .i64 x1_1 ∧ v5 = .int .i64 x5_1 ∧ Aside0 (laws_heldGateS.l0 kq l0 x1_1 x5_1 = some r) ∧ Aside0 (kq ≤ k) ∧ Drawn0 w w')
 case atStart => exact ⟨(a1), (0), (by first | rfl | (simp; done) | (simp [*]; done)), (by first | rfl | (simp; done) | (simp [*]; done)), H', ⟨Nat.le_refl _⟩, by repeat (first | exact Drawn0.refl _ | apply Drawn0.step)⟩
 case round =>
  clear H'
  try clear c1
  try clear p2
  obtain ⟨x1_1, x5_1, rfl, rfl, HA, HK1, ⟨m1, rfl⟩⟩ := hrel
  cases gk with
  | zero => exact absurd HA.out (by simp [laws_heldGateS.l0])
  | succ k1 =>
   have H := HA.out
   clear HA
   simp only [laws_heldGateS.l0] at H
   by_cases c3 : x5_1 < (l0.length : Int)
   ·rw [if_pos c3] at H
    have c3b0 : decide (x5_1 < (l0.length : Int)) = true := decide_eq_true c3
    clear c3
    by_cases c4 : 0 ≤ x5_1
    ·rw [if_pos c4] at H
     have c4b0 : decide (0 ≤ x5_1) = true := decide_eq_true c4
     clear c4
     by_cases c5 : ((rd_T114 l0 x5_1).f0) = x1_1
     ·rw [if_pos c5] at H
      have c5b0 : (((rd_T114 l0 x5_1).f0) == x1_1) = true := beq_iff_eq.mpr c5
      have c5b1 : (((rd_T114 l0 x5_1).f0) != x1_1) = false := bne_eq_false_iff_eq.mpr c5
      clear c5
      by_cases c6 : ((rd_T114 l0 x5_1).f1) = (wrap64 (x1_1 + 1))
      ·rw [if_pos c6] at H
       have c6b0 : (((rd_T114 l0 x5_1).f1) == (wrap64 (x1_1 + 1))) = true := beq_iff_eq.mpr c6
       have c6b1 : (((rd_T114 l0 x5_1).f1) != (wrap64 (x1_1 + 1))) = false := bne_eq_false_iff_eq.mpr c6
       clear c6
       have H' := Aside0.mk H
       clear H
       have p142 : 0 ≤ (x5_1 : Int) := of_decide_eq_true (by first | (with_reducible assumption) | assumption)
       have q142 : x5_1 < (l0.length : Int) := of_decide_eq_true (by first | (with_reducible assumption) | assumption)
       obtain ⟨ad142, e142, hx142_0, hx142_1⟩ := at_T114 HR0.out x5_1 p142 q142
       cases e142
       replace p142 := eq_true p142
       replace q142 := eq_true q142
       have p143 : 0 ≤ (x5_1 : Int) := of_decide_eq_true (by first | (with_reducible assumption) | assumption)
       have q143 : x5_1 < (l0.length : Int) := of_decide_eq_true (by first | (with_reducible assumption) | assumption)
       obtain ⟨ad143, e143, hx143_0, hx143_1⟩ := at_T114 HR0.out x5_1 p143 q143
       obtain rfl : ad142 = ad143 := (by injection e143)
       replace p143 := eq_true p143
       replace q143 := eq_true q143
       go_wp2
       go_roundg k1
       case measure => have := HK1.out; omega
       case rel => exact ⟨(wrap64 ((wrap64 (x1_1 + 1)) + 1)), (wrap64 (x5_1 + 1)), (by first | rfl | (simp; done) | (simp [*]; done)), (by first | rfl | (simp; done) | (simp [*]; done)), H', ⟨by have := HK1.out; omega⟩, by repeat (first | exact Drawn0.refl _ | apply Drawn0.step)⟩
      ·rw [if_neg c6] at H
       have c6b0 : (((rd_T114 l0 x5_1).f1) == (wrap64 (x1_1 + 1))) = false := beq_eq_false_iff_ne.mpr c6
       have c6b1 : (((rd_T114 l0 x5_1).f1) != (wrap64 (x1_1 + 1))) = true := bne_iff_ne.mpr c6
       obtain rfl := Option.some.inj H
       have p142 : 0 ≤ (x5_1 : Int) := of_decide_eq_true (by first | (with_reducible assumption) | assumption)
       have q142 : x5_1 < (l0.length : Int) := of_decide_eq_true (by first | (with_reducible assumption) | assumption)
       obtain ⟨ad142, e142, hx142_0, hx142_1⟩ := at_T114 HR0.out x5_1 p142 q142
       cases e142
       replace p142 := eq_true p142
       replace q142 := eq_true q142
       have p143 : 0 ≤ (x5_1 : Int) := of_decide_eq_true (by first | (with_reducible assumption) | assumption)
       have q143 : x5_1 < (l0.length : Int) := of_decide_eq_true (by first | (with_reducible assumption) | assumption)
       obtain ⟨ad143, e143, hx143_0, hx143_1⟩ := at_T114 HR0.out x5_1 p143 q143
       obtain rfl : ad142 = ad143 := (by injection e143)
       replace p143 := eq_true p143
       replace q143 := eq_true q143
       go_wp2
       go_ret
       exact ⟨by first | rfl | (simp; done) | (simp [*]; done), by repeat (first | exact Drawn0.refl _ | apply Drawn0.step)⟩
     ·rw [if_neg c5] at H
      have c5b0 : (((rd_T114 l0 x5_1).f0) == x1_1) = false := beq_eq_false_iff_ne.mpr c5
      have c5b1 : (((rd_T114 l0 x5_1).f0) != x1_1) = true := bne_iff_ne.mpr c5
      obtain rfl := Option.some.inj H
      have p142 : 0 ≤ (x5_1 : Int) := of_decide_eq_true (by first | (with_reducible assumption) | assumption)
      have q142 : x5_1 < (l0.length : Int) := of_decide_eq_true (by first | (with_reducible assumption) | assumption)
      obtain ⟨ad142, e142, hx142_0, hx142_1⟩ := at_T114 HR0.out x5_1 p142 q142
      cases e142
      replace p142 := eq_true p142
      replace q142 := eq_true q142
      go_wp2
      go_ret
      exact ⟨by first | rfl | (simp; done) | (simp [*]; done), by repeat (first | exact Drawn0.refl _ | apply Drawn0.step)⟩
    ·rw [if_neg c4] at H
     exact absurd H (by simp)
   ·rw [if_neg c3] at H
    have c3b0 : decide (x5_1 < (l0.length : Int)) = false := decide_eq_false c3
    clear c3
    obtain rfl := Option.some.inj H
    go_wp2
    go_ret
    exact ⟨by first | rfl | (simp; done) | (simp [*]; done), by repeat (first | exact Drawn0.refl _ | apply Drawn0.step)⟩
def laws_heldAig.f (k : Nat) (a0_0 : Int) (l0_1 : List (S114)) (a1 : Int) : Option (Int) := (laws_heldGateS.f k l0_1 a1).bind fun t145 => (if t145 < 0 then (some (-1)) else (some t145))
set_option maxHeartbeats 8000000 in
set_option maxRecDepth 100000 in
theorem laws_heldAig.calls (k : Nat) (a0_0 : Int) (A0_1 : Option Addr) (c0_1 : Nat) (l0_1 : List (S114)) (a1 : Int) (r : Int) (w : World) (hr0_1 : Kd.C k114 w A0_1 l0_1.length l0_1) (hc0_1 : l0_1.length ≤ c0_1) (h : laws_heldAig.f k a0_0 l0_1 a1 = some r) :
  Calls Try.prog 55 #[.agg #[.int .i64 a0_0, .slice A0_1 l0_1.length c0_1], .int .i64 a1] w fun e w' => e = .returned (.int .i64 r) ∧ Below w.heap.size w w' := by
 have hu46 := Try.underlying46
 have HR0_1 := Aside0.mk hr0_1
 have HC0_1 := Aside0.mk hc0_1
 clear hr0_1 hc0_1
 have HB := Aside0.mk (Below.refl w.heap.size w)
 have H : ((laws_heldGateS.f k l0_1 a1).bind fun t145 => (if t145 < 0 then (some (-1)) else (some t145))) = some r := h
 clear h
 replace H := Option.bind_eq_some_iff.mp H
 obtain ⟨t145, A30, H⟩ := H
 replace H : (if t145 < 0 then (some (-1)) else (some t145)) = some r := H
 have A3 := Aside0.mk A30
 clear A30
 by_cases c4 : t145 < 0
 ·rw [if_pos c4] at H
  have c4b0 : decide (t145 < 0) = true := decide_eq_true c4
  clear c4
  obtain rfl := Option.some.inj H
  go_enter Try.func55, Try.ntmps55
  go_wp2_with (first | ((with_reducible refine gate_dst (N := 2) rfl ?_); refine box_event ?hg (N := 2) ?hd (cs := #[.int .i64 a0_0, .slice A0_1 l0_1.length c0_1]) (t := 46) ?hr ?_; (case hd => rfl); (case hg => rfl); (case hr => first | (go_simp; done) | (go_simp; rfl)); intro gb144 hg w5 hbox hb; have n0_ := Aside0.mk (below_step (by repeat (first | (with_reducible first | exact HB.out | apply below_alloc | apply pw_below_drewN | apply below_drew1) | exact HB.out)) hb); have n1_ := Aside0.mk (hbox); have n2_ := Aside0.mk ((by rw [hg]; exact (below_size (by repeat (first | (with_reducible first | exact HB.out | apply below_alloc | apply pw_below_drewN | apply below_drew1) | exact HB.out))) : w.heap.size ≤ gb144)); have n3_ := Aside0.mk ((by rw [hg]; exact (below_size (by repeat (first | (with_reducible first | exact HB.out | apply below_alloc | apply pw_below_drewN | apply below_drew1) | exact HB.out))) : w.heap.size ≤ gb144)); clear HB; have HB := n0_; have BK144 := n1_; have GW144 := n2_; have GE144 := n3_; clear n0_ n1_ n2_ n3_; clear hb hbox hg; have hcz6_0 : w5.cell? ⟨gb144, 0, none⟩ = some (.int .i64 a0_0) := (blk_cell BK144.out 0).trans rfl; have hcz6_1 : w5.cell? ⟨gb144, 1, none⟩ = some (.slice A0_1 l0_1.length c0_1) := (blk_cell BK144.out 1).trans rfl; have hfz6_0 := blk_frozen BK144.out 0; have hfz6_1 := blk_frozen BK144.out 1) | ((with_reducible refine gate_callee (f := 110) rfl ?_); refine goesL_ (some 8) rfl rfl Try.func110 (by kernel_rfl) rfl #[.slice A0_1 l0_1.length c0_1, .int .i64 a1] rfl (by (try simp only [List.map_toArray, List.map_cons, List.map_nil]); first | done | rfl | (simp only [List.length_drop, List.length_take]; rfl)) ?_; (with_reducible refine (laws_heldGateS.calls k _ _ l0_1 a1 t145 _ ?side1 ?side2 A3.out).mono ?_); (case side1 => repeat (first | exact (Kd.C_below HR0_1.out HB.out) | (with_reducible refine Kd.C_alloc ?_ _) | (with_reducible refine Kd.C_drewN ?_ _) | (with_reducible refine Kd.C_drew ?_))); (case side2 => exact HC0_1.out); rintro e w' ⟨rfl, ⟨nd, rfl⟩⟩; refine ⟨_, rfl, ?_⟩))
  go_ret
  exact ⟨by first | rfl | (simp [errW_none, errW_some] <;> rfl) | (simp [*, errW_none, errW_some] <;> rfl), by repeat (first | (with_reducible first | exact HB.out | apply below_alloc | apply pw_below_drewN | apply below_drew1 | refine below_set ?_ GE144.out) | exact HB.out)⟩
 ·rw [if_neg c4] at H
  have c4b0 : decide (t145 < 0) = false := decide_eq_false c4
  clear c4
  obtain rfl := Option.some.inj H
  go_enter Try.func55, Try.ntmps55
  go_wp2_with (first | ((with_reducible refine gate_dst (N := 2) rfl ?_); refine box_event ?hg (N := 2) ?hd (cs := #[.int .i64 a0_0, .slice A0_1 l0_1.length c0_1]) (t := 46) ?hr ?_; (case hd => rfl); (case hg => rfl); (case hr => first | (go_simp; done) | (go_simp; rfl)); intro gb144 hg w7 hbox hb; have n0_ := Aside0.mk (below_step (by repeat (first | (with_reducible first | exact HB.out | apply below_alloc | apply pw_below_drewN | apply below_drew1) | exact HB.out)) hb); have n1_ := Aside0.mk (hbox); have n2_ := Aside0.mk ((by rw [hg]; exact (below_size (by repeat (first | (with_reducible first | exact HB.out | apply below_alloc | apply pw_below_drewN | apply below_drew1) | exact HB.out))) : w.heap.size ≤ gb144)); have n3_ := Aside0.mk ((by rw [hg]; exact (below_size (by repeat (first | (with_reducible first | exact HB.out | apply below_alloc | apply pw_below_drewN | apply below_drew1) | exact HB.out))) : w.heap.size ≤ gb144)); clear HB; have HB := n0_; have BK144 := n1_; have GW144 := n2_; have GE144 := n3_; clear n0_ n1_ n2_ n3_; clear hb hbox hg; have hcz8_0 : w7.cell? ⟨gb144, 0, none⟩ = some (.int .i64 a0_0) := (blk_cell BK144.out 0).trans rfl; have hcz8_1 : w7.cell? ⟨gb144, 1, none⟩ = some (.slice A0_1 l0_1.length c0_1) := (blk_cell BK144.out 1).trans rfl; have hfz8_0 := blk_frozen BK144.out 0; have hfz8_1 := blk_frozen BK144.out 1) | ((with_reducible refine gate_callee (f := 110) rfl ?_); refine goesL_ (some 8) rfl rfl Try.func110 (by kernel_rfl) rfl #[.slice A0_1 l0_1.length c0_1, .int .i64 a1] rfl (by (try simp only [List.map_toArray, List.map_cons, List.map_nil]); first | done | rfl | (simp only [List.length_drop, List.length_take]; rfl)) ?_; (with_reducible refine (laws_heldGateS.calls k _ _ l0_1 a1 t145 _ ?side1 ?side2 A3.out).mono ?_); (case side1 => repeat (first | exact (Kd.C_below HR0_1.out HB.out) | (with_reducible refine Kd.C_alloc ?_ _) | (with_reducible refine Kd.C_drewN ?_ _) | (with_reducible refine Kd.C_drew ?_))); (case side2 => exact HC0_1.out); rintro e w' ⟨rfl, ⟨nd, rfl⟩⟩; refine ⟨_, rfl, ?_⟩))
  go_ret
  exact ⟨by first | rfl | (simp [errW_none, errW_some] <;> rfl) | (simp [*, errW_none, errW_some] <;> rfl), by repeat (first | (with_reducible first | exact HB.out | apply below_alloc | apply pw_below_drewN | apply below_drew1 | refine below_set ?_ GE144.out) | exact HB.out)⟩
def laws_heldIntS.l0 : Nat → List Int → Int → Int → Option (Int)
 | 0, _, _, _ => none
 | k + 1, x0, x1, x5 => if x5 < (x0.length : Int) then (if 0 ≤ x5 then (if (rd x0 x5) = x1 then (laws_heldIntS.l0 k x0 (wrap64 (x1 + 1)) (wrap64 (x5 + 1))) else (some (-1))) else (none)) else (some x1)
def laws_heldIntS.f (k : Nat) (l0 : List Int) (a1 : Int) : Option (Int) := laws_heldIntS.l0 k l0 a1 0
set_option maxHeartbeats 8000000 in
set_option maxRecDepth 100000 in
theorem laws_heldIntS.calls (k : Nat) (A0 : Option Addr) (c0 : Nat) (l0 : List Int) (a1 : Int) (r : Int) (w : World) (hr0 : Kd.C (Kd.int .i64) w A0 l0.length l0) (hc0 : l0.length ≤ c0) (h : laws_heldIntS.f k l0 a1 = some r) :
  Calls Try.prog 56 #[.slice A0 l0.length c0, .int .i64 a1] w fun e w' => e = .returned (.int .i64 r) ∧ Drawn0 w w' := by
 have HR0 := Aside0.mk hr0
 have HC0 := Aside0.mk hc0
 clear hr0 hc0
 have H : (laws_heldIntS.l0 k l0 a1 0) = some r := h
 clear h
 have H' := Aside0.mk H
 clear H
 go_enter Try.func56, Try.ntmps56
 go_wp2
 go_loopg [1, 5] k (fun kq v1 v5 w' => ∃ (x1_1 : Int) (x5_1 : Int), v1 = .int .i64 x1_1 ∧ v5 = .int .i64 x5_1 ∧ Aside0 (laws_heldIntS.l0 kq l0 x1_1 x5_1 = some r) ∧ Aside0 (kq ≤ k) ∧ Drawn0 w w')
 case atStart => exact ⟨(a1), (0), (by first | rfl | (simp; done) | (simp [*]; done)), (by first | rfl | (simp; done) | (simp [*]; done)), H', ⟨Nat.le_refl _⟩, by repeat (first | exact Drawn0.refl _ | apply Drawn0.step)⟩
 case round =>
  clear H'
  try clear p2
  obtain ⟨x1_1, x5_1, rfl, rfl, HA, HK1, ⟨m1, rfl⟩⟩ := hrel
  cases gk with
  | zero => exact absurd HA.out (by simp [laws_heldIntS.l0])
  | succ k1 =>
   have H := HA.out
   clear HA
   simp only [laws_heldIntS.l0] at H
   by_cases c3 : x5_1 < (l0.length : Int)
   ·rw [if_pos c3] at H
    have c3b0 : decide (x5_1 < (l0.length : Int)) = true := decide_eq_true c3
    clear c3
    by_cases c4 : 0 ≤ x5_1
    ·rw [if_pos c4] at H
     have c4b0 : decide (0 ≤ x5_1) = true := decide_eq_true c4
     clear c4
     by_cases c5 : (rd l0 x5_1) = x1_1
     ·rw [if_pos c5] at H
      have c5b0 : ((rd l0 x5_1) == x1_1) = true := beq_iff_eq.mpr c5
      have c5b1 : ((rd l0 x5_1) != x1_1) = false := bne_eq_false_iff_eq.mpr c5
      clear c5
      have H' := Aside0.mk H
      clear H
      have p146 : 0 ≤ (x5_1 : Int) := of_decide_eq_true (by first | (with_reducible assumption) | assumption)
      have q146 : x5_1 < (l0.length : Int) := of_decide_eq_true (by first | (with_reducible assumption) | assumption)
      obtain ⟨ad146, e146, hx146_0⟩ := Kd.at_int HR0.out x5_1 p146 q146
      cases e146
      replace p146 := eq_true p146
      replace q146 := eq_true q146
      go_wp2
      go_roundg k1
      case measure => have := HK1.out; omega
      case rel => exact ⟨(wrap64 (x1_1 + 1)), (wrap64 (x5_1 + 1)), (by first | rfl | (simp; done) | (simp [*]; done)), (by first | rfl | (simp; done) | (simp [*]; done)), H', ⟨by have := HK1.out; omega⟩, by repeat (first | exact Drawn0.refl _ | apply Drawn0.step)⟩
     ·rw [if_neg c5] at H
      have c5b0 : ((rd l0 x5_1) == x1_1) = false := beq_eq_false_iff_ne.mpr c5
      have c5b1 : ((rd l0 x5_1) != x1_1) = true := bne_iff_ne.mpr c5
      obtain rfl := Option.some.inj H
      have p146 : 0 ≤ (x5_1 : Int) := of_decide_eq_true (by first | (with_reducible assumption) | assumption)
      have q146 : x5_1 < (l0.length : Int) := of_decide_eq_true (by first | (with_reducible assumption) | assumption)
      obtain ⟨ad146, e146, hx146_0⟩ := Kd.at_int HR0.out x5_1 p146 q146
      cases e146
      replace p146 := eq_true p146
      replace q146 := eq_true q146
      go_wp2
      go_ret
      exact ⟨by first | rfl | (simp; done) | (simp [*]; done), by repeat (first | exact Drawn0.refl _ | apply Drawn0.step)⟩
    ·rw [if_neg c4] at H
     exact absurd H (by simp)
   ·rw [if_neg c3] at H
    have c3b0 : decide (x5_1 < (l0.length : Int)) = false := decide_eq_false c3
    clear c3
    obtain rfl := Option.some.inj H
    go_wp2
    go_ret
    exact ⟨by first | rfl | (simp; done) | (simp [*]; done), by repeat (first | exact Drawn0.refl _ | apply Drawn0.step)⟩
section
variable {P : World → Prop} {V V2 : World} {ok S : Nat → Prop}
theorem gf_below (h : Foot P V ok) (hb : Below V.heap.size V V2) : Foot P V2 ok := h.step (fun k _ hlt => hb.block k hlt)
theorem gf_kept (h : Foot P V ok) (hk : Kept V V2 S) (hne : ∀ k, ok k → ¬ S k) : Foot P V2 ok := h.step (fun k hk' hlt => hk.2 k hlt (hne k hk'))
theorem gf_R {α : Type} {d : Kd α} {e base : Nat} {v : Value} {xs : List α} (h : d.R e V base ok v xs) : Foot (fun V => d.R e V base ok v xs) V ok := fun W' hW => Kd.R_step h hW
theorem gf_blk {g : Nat} {o : Obj} (h : V.heap[g]? = some o) (hok : ok g) : Foot (fun V => V.heap[g]? = some o) V ok := fun W' hW => (hW g hok (blk_lt h)).trans h
theorem gf_and {Q : World → Prop} (h : Foot P V ok) (k : Foot Q V ok) : Foot (fun V => P V ∧ Q V) V ok := fun W' hW => ⟨h W' hW, k W' hW⟩
theorem gf_C {α : Type} {d : Kd α} {A : Option Addr} {n : Nat} {xs : List α} (hd : Kd.Heap d) (h : d.C V A n xs) : Foot (fun V => d.C V A n xs) V (fun k => k < V.heap.size) := Kd.C_F hd h
theorem gf_OT {v : Value} {xs : List S31} (h : OT V ok v xs) : Foot (fun V => OT V ok v xs) V ok := fun W' hW => h.move hW
theorem gOT_C {A : Option Addr} {n c : Nat} {xs : List S31} (h : OT V ok (.slice A n c) xs) : xs.length ≤ c ∧ Kd.C k31 V A xs.length xs := by
 obtain ⟨A', c', e, h1, h2⟩ := h.reads
 cases e
 exact ⟨h1, h2⟩
end
theorem heap_k114 : Kd.Heap k114 := Kd.heap_iso _ (Kd.heap_pair (Kd.heap_int .i64) (Kd.heap_int .i64))
theorem rows_ne {w : World} {base base' : Nat} {ok ok' : Nat → Prop} {v u : Value} {gs : List S114} {l : List Int} (h : Kd.R k114 114 w base ok v gs) (h2 : Kd.R (Kd.int .i64) 3 w base' ok' u l) {k : Nat} (e : v.ownBlock = some k) (e2 : u.ownBlock = some k) : False := by
 obtain ⟨cs1, hcs1⟩ := Kd.R_typed h k e
 obtain ⟨cs2, hcs2⟩ := Kd.R_typed h2 k e2
 rw [hcs1] at hcs2
 cases hcs2
theorem heldA_at (kf : Nat) (s1 : Int) (A : Option Addr) (c n : Nat) (m2 : List S114) (a r : Int) (w : World) {base : Nat} {ok : Nat → Prop} (hR : Kd.R k114 114 w base ok (.slice A n c) m2) (h : laws_heldAig.f kf s1 m2 a = some r) : Calls Try.prog 55 #[.agg #[.int .i64 s1, .slice A n c], .int .i64 a] w fun e w' => e = .returned (.int .i64 r) ∧ Below w.heap.size w w' := by
 obtain ⟨rfl, hc, hC⟩ := Kd.R_reads' hR
 exact laws_heldAig.calls kf s1 A c m2 a r w hC hc h
theorem heldI_at (kf : Nat) (A : Option Addr) (c n : Nat) (m2 : List Int) (a r : Int) (w : World) {base : Nat} {ok : Nat → Prop} (hR : Kd.R (Kd.int .i64) 3 w base ok (.slice A n c) m2) (h : laws_heldIntS.f kf m2 a = some r) : Calls Try.prog 56 #[.slice A n c, .int .i64 a] w fun e w' => e = .returned (.int .i64 r) ∧ Below w.heap.size w w' := by
 obtain ⟨rfl, hc, hC⟩ := Kd.R_reads' hR
 exact (laws_heldIntS.calls kf A c m2 a r w hC hc h).mono (fun e w' ⟨h1, h2⟩ => ⟨h1, h2.below⟩)
instance : DecidableEq S114 := fun a b => decidable_of_iff (a.f0 = b.f0 ∧ a.f1 = b.f1) ⟨fun h => by
 cases a
 cases b
 simp only at h
 rw [h.1, h.2], fun h => by rw [h]; exact ⟨rfl, rfl⟩⟩
def laws_FnExactBuildAig.f (kf : Nat) (a0 : Int) (l1 : List S24) : Option Bool :=
 (laws_szExS.f kf l1 1048576).bind fun t => if t < 0 then some true else
 (laws_toExS.f kf l1).bind fun x1 => (spec_BuildAig.f kf a0 x1).bind fun (s1, s2, s3, s4) => (impl_BuildAig.f kf a0 x1).bind fun g => (laws_eqAig.f kf s1 s2 s1 s2).bind fun b1 => (laws_eqIntS.f kf s3 s3).bind fun b2 => (laws_eqExS.f kf x1 x1).bind fun b3 => (laws_markAig.f kf s1 s2 1).bind fun (m1, m2) => (laws_markIntS.f kf s3 m1).bind fun (n1, n2) => (laws_heldAig.f kf s1 m2 1).bind fun h1 => (laws_heldIntS.f kf n2 h1).bind fun h2 =>
 if g = (s1, s2, s3, s4) ∧ b1 = true ∧ b2 = true ∧ b3 = true ∧ h2 = n1 ∧ 0 ≤ h1 ∧ 0 ≤ h2 ∧ nL x1 ≤ 1048576 then some true else none
set_option maxHeartbeats 4000000 in
set_option maxRecDepth 100000 in
theorem laws_FnExactBuildAig.calls (kf : Nat) (a0 : Int) (A1 : Option Addr) (c1 : Nat) (l1 : List S24) (r : Bool) (w : World) (hr1 : Kd.C k24 w A1 l1.length l1) (hc1 : l1.length ≤ c1) (h : laws_FnExactBuildAig.f kf a0 l1 = some r) :
  Calls Try.prog 10 #[.int .i64 a0, .slice A1 l1.length c1] w fun e w' => e = .returned (.bool r) ∧ Below w.heap.size w w' := by
 have hu46 := Try.underlying46
 unfold laws_FnExactBuildAig.f at h
 have HB := Aside0.mk (Below.refl w.heap.size w)
 replace h := Option.bind_eq_some_iff.1 h
 obtain ⟨t, hsz, h⟩ := h
 by_cases ht : t < 0
 ·rw [if_pos ht] at h
  obtain rfl := Option.some.inj h
  clear h
  go_enter Try.func10, Try.ntmps10
  go_wp2_with (go_at_call 29; refine (laws_szExS.calls kf A1 c1 l1 1048576 t _ (Kd.C_below hr1 HB.out) hc1 hsz).mono ?_; rintro e w2 ⟨rfl, hb⟩)
  go_ret
  exact ⟨rfl, HB.out.trans (hb.mono HB.out.size)⟩
 rw [if_neg ht] at h
 replace h := Option.bind_eq_some_iff.1 h
 obtain ⟨x1, hto, h⟩ := h
 replace h := Option.bind_eq_some_iff.1 h
 obtain ⟨⟨s1, s2, s3, s4⟩, hsp, h⟩ := h
 replace h := Option.bind_eq_some_iff.1 h
 obtain ⟨g, him, h⟩ := h
 replace h := Option.bind_eq_some_iff.1 h
 obtain ⟨b1, heb, h⟩ := h
 replace h := Option.bind_eq_some_iff.1 h
 obtain ⟨b2, hei, h⟩ := h
 replace h := Option.bind_eq_some_iff.1 h
 obtain ⟨b3, hex, h⟩ := h
 replace h := Option.bind_eq_some_iff.1 h
 obtain ⟨⟨m1, m2⟩, hma, h⟩ := h
 replace h := Option.bind_eq_some_iff.1 h
 obtain ⟨⟨n1, n2⟩, hmi, h⟩ := h
 replace h := Option.bind_eq_some_iff.1 h
 obtain ⟨h1, hha, h⟩ := h
 replace h := Option.bind_eq_some_iff.1 h
 obtain ⟨h2, hhi, h⟩ := h
 try simp only at h
 by_cases hc : g = (s1, s2, s3, s4) ∧ b1 = true ∧ b2 = true ∧ b3 = true ∧ h2 = n1 ∧ 0 ≤ h1 ∧ 0 ≤ h2 ∧ nL x1 ≤ 1048576
 ·rw [if_pos hc] at h
  obtain ⟨rfl, rfl, rfl, rfl, hhn, hp1, hp2, hnx_⟩ := hc
  subst hhn
  obtain rfl := Option.some.inj h
  clear h
  have hnx := Aside0.mk hnx_
  have hne : (s4 != s4) = false := by simp
  have hne2 : (h2 != h2) = false := by simp
  have hlt1 : ¬ (h1 < 0) := by omega
  have hlt2 : ¬ (h2 < 0) := by omega
  clear hnx_ hp1 hp2
  go_enter Try.func10, Try.ntmps10
  go_upto_region 5 with (go_at_call 29; (with_reducible refine (laws_szExS.calls kf A1 c1 l1 1048576 t _ (Kd.C_below hr1 HB.out) hc1 hsz).mono ?_); rintro e w2 ⟨rfl, hb⟩; have mHB_ := Aside0.mk (HB.out.trans (hb.mono HB.out.size)); clear HB; have HB := mHB_; clear mHB_; clear hb)
  go_upto_region 6 with (first
   | (go_at_call 31; (with_reducible refine (toSS.calls kf A1 c1 l1 x1 _ (Kd.C_below hr1 HB.out) hc1 hto).mono ?_); rintro e w3 ⟨v3, rfl, hS3, hb⟩; have mHB_ := Aside0.mk (HB.out.trans (hb.mono HB.out.size)); clear HB; have HB := mHB_; clear mHB_; clear hb; obtain ⟨A3, c3, ev_, hl3, hC3⟩ := Kd.S_reads hS3; replace hC3 := kS31_C hC3; clear hS3; subst ev_)
   | (go_at_call 53; (with_reducible refine (spec_BuildAig.calls kf a0 A3 c3 x1 s1 s2 s3 s4 _ hC3 hl3 hsp).mono ?_); rintro e w3b ⟨vg4, vl4, rfl, hRg4, hRl4, hb⟩; clear hC3 hl3; have mHB_ := Aside0.mk (HB.out.trans (hb.mono HB.out.size)); clear HB; have HB := mHB_; clear mHB_; clear hb; obtain ⟨A4, c4, ev4, hl4, hC4⟩ := Kd.R_reads hRg4; obtain ⟨A4b, c4b, ev4b, hl4b, hC4b⟩ := Kd.R_reads hRl4; clear hRg4 hRl4; subst ev4; subst ev4b; have HC4 := Aside0.mk (And.intro hC4 hC4b); have HL4 := Aside0.mk (And.intro hl4 hl4b); clear hC4 hl4 hC4b hl4b)
   | ((with_reducible refine gate_dst (N := 6) rfl ?_); refine box_event ?hg (N := 6) ?hd (cs := #[.int .i64 0, .slice none 0 0]) (t := 46) ?hr ?_; (case hd => rfl); (case hg => rfl); (case hr => first | (go_simp; done) | (go_simp; rfl)); intro gb4 hgw wb4 hbox hbb; have hcz0 := (blk_cell hbox 0).trans (show _ = some (.int .i64 0) from rfl); have hcz1 := (blk_cell hbox 1).trans (show _ = some (.slice none 0 0) from rfl); have hfz0 := blk_frozen hbox 0; have hfz1 := blk_frozen hbox 1; have hgw_ := Aside0.mk hgw; clear hgw; have hgw := hgw_; clear hgw_)
   | ((with_reducible refine gate_store (t := 46) (p := 6) rfl ?_); refine store_event (t := 46) (p := 6) (v := ?vo_6) (w1 := (wb4.setCell ⟨gb4, 0, none⟩ (.int .i64 s1)).setCell ⟨gb4, 1, none⟩ (.slice A4 s2.length c4)) ?hg ?ho ?hn ?hr ?_; (case ho => rfl); (case hg => rfl); (case hn => rfl); (case hr => first | (go_simp; done) | (go_simp; rfl)); clear hcz0 hcz1 hfz0 hfz1; intro w4 hw_; obtain ⟨hbk, hb⟩ := box2n (t := 46) (a := .int .i64 s1) (v := .slice A4 s2.length c4) hgw.out hbox hbb; rw [← hw_] at hbk hb; clear hw_ hbox hbb; have mHB_ := Aside0.mk (HB.out.trans (hb.mono HB.out.size)); clear HB; have HB := mHB_; clear mHB_; have FW := Aside0.mk (gf_and (gf_blk (ok := fun k_ => k_ < w4.heap.size) hbk (blk_lt hbk)) (gf_and (gf_C heap_k114 (Kd.C_below HC4.out.1 hb)) (gf_C (Kd.heap_int .i64) (Kd.C_below HC4.out.2 hb)))); clear HC4; have HW4 := Aside0.mk HB.out.size; clear hgw hb hbk))
  have hw0 := (blk_cell FW.out.now.1 0).trans (show _ = some (.int .i64 s1) from rfl)
  have hw1 := (blk_cell FW.out.now.1 1).trans (show _ = some (.slice A4 s2.length c4) from rfl)
  go_upto_region 7 with (go_at_call 31; (with_reducible refine (toSS.calls kf A1 c1 l1 x1 _ (Kd.C_below hr1 HB.out) hc1 hto).mono ?_); rintro e w5 ⟨v5, rfl, hS5, hb⟩; have HX := Aside0.mk (gf_OT (OT.of _ x1 (Nat.lt_succ_self _) (Kd.S_mono (ok' := fun k_ => w4.heap.size ≤ k_ ∧ k_ < w5.heap.size) (Kd.S_bound hS5) (fun k_ hk_ => ⟨hk_.2.1, hk_.2.2.1⟩)))); have H45 := Aside0.mk hb.size; clear hw0 hw1; have mFW_ := Aside0.mk (gf_below FW.out hb); have mHB_ := Aside0.mk (HB.out.trans (hb.mono HB.out.size)); clear FW HB; have FW := mFW_; have HB := mHB_; clear mFW_ mHB_; have hw0 := (blk_cell FW.out.now.1 0).trans (show _ = some (.int .i64 s1) from rfl); have hw1 := (blk_cell FW.out.now.1 1).trans (show _ = some (.slice A4 s2.length c4) from rfl); clear hb; obtain ⟨A5, c5, ev5⟩ := Kd.S_slice hS5; clear hS5; subst ev5)
  go_upto_region 8 with (first
   | (go_at_call 54; (with_reducible refine (impl_BuildAig.calls kf a0 A5 c5 x1 s1 s2 s3 s4 _ (gOT_C HX.out.now).2 (gOT_C HX.out.now).1 him).mono ?_); rintro e w7 ⟨vg7, vl7, rfl, hRg7, hRl7, hb⟩; have H57 := Aside0.mk hb.size; have NE := Aside0.mk (show ∀ k, some k = vg7.ownBlock → some k = vl7.ownBlock → False from fun k h1 h2 => rows_ne hRg7 hRl7 h1.symm h2.symm); have GR := Aside0.mk (show ∀ k, some k = vg7.ownBlock → w5.heap.size ≤ k ∧ k < w7.heap.size from fun k h => ⟨Kd.R_base hRg7 k h.symm, Kd.R_lt hRg7 k h.symm⟩); have LR := Aside0.mk (show ∀ k, some k = vl7.ownBlock → w5.heap.size ≤ k ∧ k < w7.heap.size from fun k h => ⟨Kd.R_base hRl7 k h.symm, Kd.R_lt hRl7 k h.symm⟩); have HG := Aside0.mk (gf_R (Kd.R_lower (Kd.R_tight rfl hRg7) HB.out.size)); have HL := Aside0.mk (gf_R (Kd.R_lower (Kd.R_tight rfl hRl7) HB.out.size)); clear hw0 hw1; have mFW_ := Aside0.mk (gf_below FW.out hb); have mHX_ := Aside0.mk (gf_below HX.out hb); have mHB_ := Aside0.mk (HB.out.trans (hb.mono HB.out.size)); clear FW HX HB; have FW := mFW_; have HX := mHX_; have HB := mHB_; clear mFW_ mHX_ mHB_; have hw0 := (blk_cell FW.out.now.1 0).trans (show _ = some (.int .i64 s1) from rfl); have hw1 := (blk_cell FW.out.now.1 1).trans (show _ = some (.slice A4 s2.length c4) from rfl); clear hb; obtain ⟨A7, c7, ev7⟩ := Kd.R_slice hRg7; obtain ⟨A8, c8, ev8⟩ := Kd.R_slice hRl7; clear hRg7 hRl7; subst ev7; subst ev8)
   | ((with_reducible refine gate_dst (N := 10) rfl ?_); refine box_event ?hg (N := 10) ?hd (cs := #[.int .i64 0, .slice none 0 0]) (t := 46) ?hr ?_; (case hd => rfl); (case hg => rfl); (case hr => first | (go_simp; done) | (go_simp; rfl)); intro gb7 hgw wb7 hbox hbb; have hcz0 := (blk_cell hbox 0).trans (show _ = some (.int .i64 0) from rfl); have hcz1 := (blk_cell hbox 1).trans (show _ = some (.slice none 0 0) from rfl); have hfz0 := blk_frozen hbox 0; have hfz1 := blk_frozen hbox 1; have hgw_ := Aside0.mk hgw; clear hgw; have hgw := hgw_; clear hgw_)
   | ((with_reducible refine gate_store (t := 46) (p := 10) rfl ?_); refine store_event (t := 46) (p := 10) (v := ?vo_10) (w1 := (wb7.setCell ⟨gb7, 0, none⟩ (.int .i64 s1)).setCell ⟨gb7, 1, none⟩ (.slice A7 s2.length c7)) ?hg ?ho ?hn ?hr ?_; (case ho => rfl); (case hg => rfl); (case hn => rfl); (case hr => first | (go_simp; done) | (go_simp; rfl)); clear hcz0 hcz1 hfz0 hfz1; intro w8 hw_; obtain ⟨hbk, hb⟩ := box2n (t := 46) (a := .int .i64 s1) (v := .slice A7 s2.length c7) hgw.out hbox hbb; rw [← hw_] at hbk hb; clear hw_ hbox hbb; clear hw0 hw1; have mFW_ := Aside0.mk (gf_below FW.out hb); have mHX_ := Aside0.mk (gf_below HX.out hb); have mHG_ := Aside0.mk (gf_below HG.out hb); have mHL_ := Aside0.mk (gf_below HL.out hb); have mHB_ := Aside0.mk (HB.out.trans (hb.mono HB.out.size)); clear FW HX HG HL HB; have FW := mFW_; have HX := mHX_; have HG := mHG_; have HL := mHL_; have HB := mHB_; clear mFW_ mHX_ mHG_ mHL_ mHB_; have hw0 := (blk_cell FW.out.now.1 0).trans (show _ = some (.int .i64 s1) from rfl); have hw1 := (blk_cell FW.out.now.1 1).trans (show _ = some (.slice A4 s2.length c4) from rfl); have HGB := Aside0.mk (gf_blk (ok := fun k_ => k_ = gb7) hbk rfl); have HG7 := Aside0.mk (hgw.out); clear hgw hb hbk))
  have hg0 := (blk_cell HGB.out.now 0).trans (show _ = some (.int .i64 s1) from rfl)
  have hg1 := (blk_cell HGB.out.now 1).trans (show _ = some (.slice A7 s2.length c7) from rfl)
  go_upto_region 10 with (first
   | (go_at_call 23; (with_reducible refine (laws_eqAig.calls kf s1 A7 c7 s2 s1 A4 c4 s2 true _ (Kd.R_reads' HG.out.now).2.2 (Kd.R_reads' HG.out.now).2.1 FW.out.now.2.1 HL4.out.1 heb).mono ?_); rintro e w9 ⟨rfl, hb⟩; clear hw0 hw1 hg0 hg1; have mFW_ := Aside0.mk (gf_below FW.out hb); have mHX_ := Aside0.mk (gf_below HX.out hb); have mHG_ := Aside0.mk (gf_below HG.out hb); have mHL_ := Aside0.mk (gf_below HL.out hb); have mHGB_ := Aside0.mk (gf_below HGB.out hb); have mHB_ := Aside0.mk (HB.out.trans (hb.mono HB.out.size)); clear FW HX HG HL HGB HB; have FW := mFW_; have HX := mHX_; have HG := mHG_; have HL := mHL_; have HGB := mHGB_; have HB := mHB_; clear mFW_ mHX_ mHG_ mHL_ mHGB_ mHB_; have hw0 := (blk_cell FW.out.now.1 0).trans (show _ = some (.int .i64 s1) from rfl); have hw1 := (blk_cell FW.out.now.1 1).trans (show _ = some (.slice A4 s2.length c4) from rfl); have hg0 := (blk_cell HGB.out.now 0).trans (show _ = some (.int .i64 s1) from rfl); have hg1 := (blk_cell HGB.out.now 1).trans (show _ = some (.slice A7 s2.length c7) from rfl); clear hb)
   | (go_at_call 24; (with_reducible refine (laws_eqIntS.calls kf A8 c8 s3 A4b c4b s3 true _ (Kd.R_reads' HL.out.now).2.2 (Kd.R_reads' HL.out.now).2.1 FW.out.now.2.2 HL4.out.2 hei).mono ?_); rintro e w9b ⟨rfl, hd⟩; have hb := hd.below; clear hd; clear hw0 hw1 hg0 hg1; have mFW_ := Aside0.mk (gf_below FW.out hb); have mHX_ := Aside0.mk (gf_below HX.out hb); have mHG_ := Aside0.mk (gf_below HG.out hb); have mHL_ := Aside0.mk (gf_below HL.out hb); have mHGB_ := Aside0.mk (gf_below HGB.out hb); have mHB_ := Aside0.mk (HB.out.trans (hb.mono HB.out.size)); clear FW HX HG HL HGB HB; have FW := mFW_; have HX := mHX_; have HG := mHG_; have HL := mHL_; have HGB := mHGB_; have HB := mHB_; clear mFW_ mHX_ mHG_ mHL_ mHGB_ mHB_; have hw0 := (blk_cell FW.out.now.1 0).trans (show _ = some (.int .i64 s1) from rfl); have hw1 := (blk_cell FW.out.now.1 1).trans (show _ = some (.slice A4 s2.length c4) from rfl); have hg0 := (blk_cell HGB.out.now 0).trans (show _ = some (.int .i64 s1) from rfl); have hg1 := (blk_cell HGB.out.now 1).trans (show _ = some (.slice A7 s2.length c7) from rfl); clear hb))
  go_upto_region 12 with (first
   | (go_at_call 31; (with_reducible refine (toSS.calls kf A1 c1 l1 x1 _ (Kd.C_below hr1 HB.out) hc1 hto).mono ?_); rintro e w10 ⟨v10, rfl, hS10, hb⟩; clear hw0 hw1 hg0 hg1; have mFW_ := Aside0.mk (gf_below FW.out hb); have mHX_ := Aside0.mk (gf_below HX.out hb); have mHG_ := Aside0.mk (gf_below HG.out hb); have mHL_ := Aside0.mk (gf_below HL.out hb); have mHGB_ := Aside0.mk (gf_below HGB.out hb); have mHB_ := Aside0.mk (HB.out.trans (hb.mono HB.out.size)); clear FW HX HG HL HGB HB; have FW := mFW_; have HX := mHX_; have HG := mHG_; have HL := mHL_; have HGB := mHGB_; have HB := mHB_; clear mFW_ mHX_ mHG_ mHL_ mHGB_ mHB_; have hw0 := (blk_cell FW.out.now.1 0).trans (show _ = some (.int .i64 s1) from rfl); have hw1 := (blk_cell FW.out.now.1 1).trans (show _ = some (.slice A4 s2.length c4) from rfl); have hg0 := (blk_cell HGB.out.now 0).trans (show _ = some (.int .i64 s1) from rfl); have hg1 := (blk_cell HGB.out.now 1).trans (show _ = some (.slice A7 s2.length c7) from rfl); clear hb; obtain ⟨A10, c10, ev_, hl10, hC10⟩ := Kd.S_reads hS10; replace hC10 := kS31_C hC10; clear hS10; subst ev_)
   | (go_at_call 33; (with_reducible refine (laws_eqExS.calls kf A5 c5 x1 A10 c10 x1 true _ (gOT_C HX.out.now).2 (gOT_C HX.out.now).1 hC10 hl10 hex).mono ?_); rintro e w11 ⟨rfl, hb⟩; clear hC10 hl10; clear hw0 hw1 hg0 hg1; have mFW_ := Aside0.mk (gf_below FW.out hb); have mHX_ := Aside0.mk (gf_below HX.out hb); have mHG_ := Aside0.mk (gf_below HG.out hb); have mHL_ := Aside0.mk (gf_below HL.out hb); have mHGB_ := Aside0.mk (gf_below HGB.out hb); have mHB_ := Aside0.mk (HB.out.trans (hb.mono HB.out.size)); clear FW HX HG HL HGB HB; have FW := mFW_; have HX := mHX_; have HG := mHG_; have HL := mHL_; have HGB := mHGB_; have HB := mHB_; clear mFW_ mHX_ mHG_ mHL_ mHGB_ mHB_; have hw0 := (blk_cell FW.out.now.1 0).trans (show _ = some (.int .i64 s1) from rfl); have hw1 := (blk_cell FW.out.now.1 1).trans (show _ = some (.slice A4 s2.length c4) from rfl); have hg0 := (blk_cell HGB.out.now 0).trans (show _ = some (.int .i64 s1) from rfl); have hg1 := (blk_cell HGB.out.now 1).trans (show _ = some (.slice A7 s2.length c7) from rfl); clear hb))
  go_upto_region 14 with (go_at_call 34; (with_reducible refine (markExS_any (SizeOf.sizeOf x1 + 1) x1 (Nat.lt_succ_self _) (fun k_ => w4.heap.size ≤ k_ ∧ k_ < w5.heap.size) (.slice A5 x1.length c5) (1 : Int) w _ HB.out (fun k_ hk_ => by have g_ : w4.heap.size ≤ k_ ∧ k_ < w5.heap.size := hk_; have := HW4.out; omega) HX.out.now (by decide) (by have := hnx.out; omega)).mono ?_); rintro e w13 ⟨rfl, hO_, hbB, hbK⟩; clear HX hO_; clear hw0 hw1 hg0 hg1; have mFW_ := Aside0.mk (gf_kept FW.out hbK (fun k_ hk_ hs_ => by have g1_ : k_ < w4.heap.size := hk_; have g2_ : w4.heap.size ≤ k_ ∧ k_ < w5.heap.size := hs_; have := H45.out; have := H57.out; have := HG7.out; omega)); have mHG_ := Aside0.mk (gf_kept HG.out hbK (fun k_ hk_ hs_ => by have g1_ : some k_ = (Value.slice A7 s2.length c7).ownBlock := hk_; have g2_ : w4.heap.size ≤ k_ ∧ k_ < w5.heap.size := hs_; have r1_ := GR.out k_ hk_; have := H45.out; have := H57.out; have := HG7.out; omega)); have mHL_ := Aside0.mk (gf_kept HL.out hbK (fun k_ hk_ hs_ => by have g1_ : some k_ = (Value.slice A8 s3.length c8).ownBlock := hk_; have g2_ : w4.heap.size ≤ k_ ∧ k_ < w5.heap.size := hs_; have r2_ := LR.out k_ hk_; have := H45.out; have := H57.out; have := HG7.out; omega)); have mHGB_ := Aside0.mk (gf_kept HGB.out hbK (fun k_ hk_ hs_ => by have g1_ : k_ = gb7 := hk_; have g2_ : w4.heap.size ≤ k_ ∧ k_ < w5.heap.size := hs_; have := H45.out; have := H57.out; have := HG7.out; omega)); have mHB_ := Aside0.mk (hbB); clear FW HG HL HGB HB; have FW := mFW_; have HG := mHG_; have HL := mHL_; have HGB := mHGB_; have HB := mHB_; clear mFW_ mHG_ mHL_ mHGB_ mHB_; have hw0 := (blk_cell FW.out.now.1 0).trans (show _ = some (.int .i64 s1) from rfl); have hw1 := (blk_cell FW.out.now.1 1).trans (show _ = some (.slice A4 s2.length c4) from rfl); have hg0 := (blk_cell HGB.out.now 0).trans (show _ = some (.int .i64 s1) from rfl); have hg1 := (blk_cell HGB.out.now 1).trans (show _ = some (.slice A7 s2.length c7) from rfl); clear hbK hbB)
  have hk0 : ¬ (((1 : Int) + 2 * nL x1) < 0) := by have := hnx.out; omega
  go_upto_region 17 with (first
   | (go_at_call 23; (with_reducible refine (laws_eqAig.calls kf s1 A7 c7 s2 s1 A4 c4 s2 true _ (Kd.R_reads' HG.out.now).2.2 (Kd.R_reads' HG.out.now).2.1 FW.out.now.2.1 HL4.out.1 heb).mono ?_); rintro e w14 ⟨rfl, hb⟩; clear hw0 hw1 hg0 hg1; have mFW_ := Aside0.mk (gf_below FW.out hb); have mHG_ := Aside0.mk (gf_below HG.out hb); have mHL_ := Aside0.mk (gf_below HL.out hb); have mHGB_ := Aside0.mk (gf_below HGB.out hb); have mHB_ := Aside0.mk (HB.out.trans (hb.mono HB.out.size)); clear FW HG HL HGB HB; have FW := mFW_; have HG := mHG_; have HL := mHL_; have HGB := mHGB_; have HB := mHB_; clear mFW_ mHG_ mHL_ mHGB_ mHB_; have hw0 := (blk_cell FW.out.now.1 0).trans (show _ = some (.int .i64 s1) from rfl); have hw1 := (blk_cell FW.out.now.1 1).trans (show _ = some (.slice A4 s2.length c4) from rfl); have hg0 := (blk_cell HGB.out.now 0).trans (show _ = some (.int .i64 s1) from rfl); have hg1 := (blk_cell HGB.out.now 1).trans (show _ = some (.slice A7 s2.length c7) from rfl); clear hb)
   | (go_at_call 24; (with_reducible refine (laws_eqIntS.calls kf A8 c8 s3 A4b c4b s3 true _ (Kd.R_reads' HL.out.now).2.2 (Kd.R_reads' HL.out.now).2.1 FW.out.now.2.2 HL4.out.2 hei).mono ?_); rintro e w14b ⟨rfl, hd⟩; have hb := hd.below; clear hd; clear hw0 hw1 hg0 hg1; have mFW_ := Aside0.mk (gf_below FW.out hb); have mHG_ := Aside0.mk (gf_below HG.out hb); have mHL_ := Aside0.mk (gf_below HL.out hb); have mHGB_ := Aside0.mk (gf_below HGB.out hb); have mHB_ := Aside0.mk (HB.out.trans (hb.mono HB.out.size)); clear FW HG HL HGB HB; have FW := mFW_; have HG := mHG_; have HL := mHL_; have HGB := mHGB_; have HB := mHB_; clear mFW_ mHG_ mHL_ mHGB_ mHB_; have hw0 := (blk_cell FW.out.now.1 0).trans (show _ = some (.int .i64 s1) from rfl); have hw1 := (blk_cell FW.out.now.1 1).trans (show _ = some (.slice A4 s2.length c4) from rfl); have hg0 := (blk_cell HGB.out.now 0).trans (show _ = some (.int .i64 s1) from rfl); have hg1 := (blk_cell HGB.out.now 1).trans (show _ = some (.slice A7 s2.length c7) from rfl); clear hb))
  go_upto_region 18 with (go_at_call 25; (with_reducible refine (laws_markAig.calls kf s1 (fun k_ => some k_ = (Value.slice A7 s2.length c7).ownBlock) (.slice A7 s2.length c7) s2 1 m1 m2 w _ HB.out HG.out.now hma).mono ?_); rintro e w15 ⟨rfl, hR15, hbB, hbK⟩; clear HG; clear hw0 hw1 hg0 hg1; have mFW_ := Aside0.mk (gf_kept FW.out hbK (fun k_ hk_ hs_ => by have g1_ : k_ < w4.heap.size := hk_; have g2_ : some k_ = (Value.slice A7 s2.length c7).ownBlock := hs_; have r1_ := GR.out k_ hs_; have := H45.out; have := H57.out; have := HG7.out; omega)); have mHL_ := Aside0.mk (gf_kept HL.out hbK (fun k_ hk_ hs_ => NE.out k_ hs_ hk_)); have mHGB_ := Aside0.mk (gf_kept HGB.out hbK (fun k_ hk_ hs_ => by have g1_ : k_ = gb7 := hk_; have g2_ : some k_ = (Value.slice A7 s2.length c7).ownBlock := hs_; have r1_ := GR.out k_ hs_; have := H45.out; have := H57.out; have := HG7.out; omega)); have mHB_ := Aside0.mk (hbB); clear FW HL HGB HB; have FW := mFW_; have HL := mHL_; have HGB := mHGB_; have HB := mHB_; clear mFW_ mHL_ mHGB_ mHB_; have hw0 := (blk_cell FW.out.now.1 0).trans (show _ = some (.int .i64 s1) from rfl); have hw1 := (blk_cell FW.out.now.1 1).trans (show _ = some (.slice A4 s2.length c4) from rfl); have hg0 := (blk_cell HGB.out.now 0).trans (show _ = some (.int .i64 s1) from rfl); have hg1 := (blk_cell HGB.out.now 1).trans (show _ = some (.slice A7 s2.length c7) from rfl); have HG := Aside0.mk (gf_R (Kd.R_tight rfl hR15)); clear hbK hbB hR15)
  go_upto_region 20 with (go_at_call 26; (with_reducible refine (laws_markIntS.calls kf (fun k_ => some k_ = (Value.slice A8 s3.length c8).ownBlock) (.slice A8 s3.length c8) s3 m1 h2 n2 w _ HB.out HL.out.now hmi).mono ?_); rintro e w16 ⟨rfl, hR16, hbB, hbK⟩; clear HL; clear hw0 hw1 hg0 hg1; have mFW_ := Aside0.mk (gf_kept FW.out hbK (fun k_ hk_ hs_ => by have g1_ : k_ < w4.heap.size := hk_; have g2_ : some k_ = (Value.slice A8 s3.length c8).ownBlock := hs_; have r2_ := LR.out k_ hs_; have := H45.out; have := H57.out; have := HG7.out; omega)); have mHGB_ := Aside0.mk (gf_kept HGB.out hbK (fun k_ hk_ hs_ => by have g1_ : k_ = gb7 := hk_; have g2_ : some k_ = (Value.slice A8 s3.length c8).ownBlock := hs_; have r2_ := LR.out k_ hs_; have := H45.out; have := H57.out; have := HG7.out; omega)); have mHG_ := Aside0.mk (gf_kept HG.out hbK (fun k_ hk_ hs_ => NE.out k_ hk_ hs_)); have mHB_ := Aside0.mk (hbB); clear FW HGB HG HB; have FW := mFW_; have HGB := mHGB_; have HG := mHG_; have HB := mHB_; clear mFW_ mHGB_ mHG_ mHB_; have hw0 := (blk_cell FW.out.now.1 0).trans (show _ = some (.int .i64 s1) from rfl); have hw1 := (blk_cell FW.out.now.1 1).trans (show _ = some (.slice A4 s2.length c4) from rfl); have hg0 := (blk_cell HGB.out.now 0).trans (show _ = some (.int .i64 s1) from rfl); have hg1 := (blk_cell HGB.out.now 1).trans (show _ = some (.slice A7 s2.length c7) from rfl); have HL := Aside0.mk (gf_R (Kd.R_tight rfl hR16)); clear hbK hbB hR16)
  go_upto_region 28 with (first
   | (go_at_call 55; (with_reducible refine (heldA_at kf s1 A7 c7 s2.length m2 1 h1 _ HG.out.now hha).mono ?_); rintro e w17 ⟨rfl, hb⟩; clear hw0 hw1 hg0 hg1; have mFW_ := Aside0.mk (gf_below FW.out hb); have mHGB_ := Aside0.mk (gf_below HGB.out hb); have mHG_ := Aside0.mk (gf_below HG.out hb); have mHL_ := Aside0.mk (gf_below HL.out hb); have mHB_ := Aside0.mk (HB.out.trans (hb.mono HB.out.size)); clear FW HGB HG HL HB; have FW := mFW_; have HGB := mHGB_; have HG := mHG_; have HL := mHL_; have HB := mHB_; clear mFW_ mHGB_ mHG_ mHL_ mHB_; have hw0 := (blk_cell FW.out.now.1 0).trans (show _ = some (.int .i64 s1) from rfl); have hw1 := (blk_cell FW.out.now.1 1).trans (show _ = some (.slice A4 s2.length c4) from rfl); have hg0 := (blk_cell HGB.out.now 0).trans (show _ = some (.int .i64 s1) from rfl); have hg1 := (blk_cell HGB.out.now 1).trans (show _ = some (.slice A7 s2.length c7) from rfl); clear hb)
   | (go_at_call 56; (with_reducible refine (heldI_at kf A8 c8 s3.length n2 h1 h2 _ HL.out.now hhi).mono ?_); rintro e w18 ⟨rfl, hb⟩; clear hw0 hw1 hg0 hg1; have mFW_ := Aside0.mk (gf_below FW.out hb); have mHGB_ := Aside0.mk (gf_below HGB.out hb); have mHG_ := Aside0.mk (gf_below HG.out hb); have mHL_ := Aside0.mk (gf_below HL.out hb); have mHB_ := Aside0.mk (HB.out.trans (hb.mono HB.out.size)); clear FW HGB HG HL HB; have FW := mFW_; have HGB := mHGB_; have HG := mHG_; have HL := mHL_; have HB := mHB_; clear mFW_ mHGB_ mHG_ mHL_ mHB_; have hw0 := (blk_cell FW.out.now.1 0).trans (show _ = some (.int .i64 s1) from rfl); have hw1 := (blk_cell FW.out.now.1 1).trans (show _ = some (.slice A4 s2.length c4) from rfl); have hg0 := (blk_cell HGB.out.now 0).trans (show _ = some (.int .i64 s1) from rfl); have hg1 := (blk_cell HGB.out.now 1).trans (show _ = some (.slice A7 s2.length c7) from rfl); clear hb))
  go_upto_region 29 with (first
   | (go_at_call 31; (with_reducible refine (toSS.calls kf A1 c1 l1 x1 _ (Kd.C_below hr1 HB.out) hc1 hto).mono ?_); rintro e w20 ⟨v20, rfl, hS20, hb⟩; clear hw0 hw1 hg0 hg1; have mFW_ := Aside0.mk (gf_below FW.out hb); have mHGB_ := Aside0.mk (gf_below HGB.out hb); have mHG_ := Aside0.mk (gf_below HG.out hb); have mHL_ := Aside0.mk (gf_below HL.out hb); have mHB_ := Aside0.mk (HB.out.trans (hb.mono HB.out.size)); clear FW HGB HG HL HB; have FW := mFW_; have HGB := mHGB_; have HG := mHG_; have HL := mHL_; have HB := mHB_; clear mFW_ mHGB_ mHG_ mHL_ mHB_; have hw0 := (blk_cell FW.out.now.1 0).trans (show _ = some (.int .i64 s1) from rfl); have hw1 := (blk_cell FW.out.now.1 1).trans (show _ = some (.slice A4 s2.length c4) from rfl); have hg0 := (blk_cell HGB.out.now 0).trans (show _ = some (.int .i64 s1) from rfl); have hg1 := (blk_cell HGB.out.now 1).trans (show _ = some (.slice A7 s2.length c7) from rfl); clear hb; obtain ⟨A20, c20, ev_, hl20, hC20⟩ := Kd.S_reads hS20; replace hC20 := kS31_C hC20; clear hS20; subst ev_)
   | (go_at_call 54; (with_reducible refine (impl_BuildAig.calls kf a0 A20 c20 x1 s1 s2 s3 s4 _ hC20 hl20 him).mono ?_); rintro e w21 ⟨vg21, vl21, rfl, hRg21, hRl21, hb⟩; clear hC20 hl20; clear hw0 hw1 hg0 hg1; have mFW_ := Aside0.mk (gf_below FW.out hb); have mHGB_ := Aside0.mk (gf_below HGB.out hb); have mHG_ := Aside0.mk (gf_below HG.out hb); have mHL_ := Aside0.mk (gf_below HL.out hb); have mHB_ := Aside0.mk (HB.out.trans (hb.mono HB.out.size)); clear FW HGB HG HL HB; have FW := mFW_; have HGB := mHGB_; have HG := mHG_; have HL := mHL_; have HB := mHB_; clear mFW_ mHGB_ mHG_ mHL_ mHB_; have hw0 := (blk_cell FW.out.now.1 0).trans (show _ = some (.int .i64 s1) from rfl); have hw1 := (blk_cell FW.out.now.1 1).trans (show _ = some (.slice A4 s2.length c4) from rfl); have hg0 := (blk_cell HGB.out.now 0).trans (show _ = some (.int .i64 s1) from rfl); have hg1 := (blk_cell HGB.out.now 1).trans (show _ = some (.slice A7 s2.length c7) from rfl); clear hb; obtain ⟨A21, c21, ev21, hl21, hC21⟩ := Kd.R_reads hRg21; obtain ⟨A22, c22, ev22, hl22, hC22⟩ := Kd.R_reads hRl21; clear hRg21 hRl21; subst ev21; subst ev22; have HC21 := Aside0.mk (And.intro hC21 hC22); have HL21 := Aside0.mk (And.intro hl21 hl22); clear hC21 hC22 hl21 hl22)
   | ((with_reducible refine gate_dst (N := 16) rfl ?_); refine box_event ?hg (N := 16) ?hd (cs := #[.int .i64 0, .slice none 0 0]) (t := 46) ?hr ?_; (case hd => rfl); (case hg => rfl); (case hr => first | (go_simp; done) | (go_simp; rfl)); intro gb9 hgw wb9 hbox hbb; have hcz0 := (blk_cell hbox 0).trans (show _ = some (.int .i64 0) from rfl); have hcz1 := (blk_cell hbox 1).trans (show _ = some (.slice none 0 0) from rfl); have hfz0 := blk_frozen hbox 0; have hfz1 := blk_frozen hbox 1; have hgw_ := Aside0.mk hgw; clear hgw; have hgw := hgw_; clear hgw_)
   | ((with_reducible refine gate_store (t := 46) (p := 16) rfl ?_); refine store_event (t := 46) (p := 16) (v := ?vo_16) (w1 := (wb9.setCell ⟨gb9, 0, none⟩ (.int .i64 s1)).setCell ⟨gb9, 1, none⟩ (.slice A21 s2.length c21)) ?hg ?ho ?hn ?hr ?_; (case ho => rfl); (case hg => rfl); (case hn => rfl); (case hr => first | (go_simp; done) | (go_simp; rfl)); clear hcz0 hcz1 hfz0 hfz1; intro w22 hw_; obtain ⟨hbk, hb⟩ := box2n (t := 46) (a := .int .i64 s1) (v := .slice A21 s2.length c21) hgw.out hbox hbb; rw [← hw_] at hbk hb; clear hw_ hbox hbb; clear hw0 hw1 hg0 hg1; have mFW_ := Aside0.mk (gf_below FW.out hb); have mHGB_ := Aside0.mk (gf_below HGB.out hb); have mHG_ := Aside0.mk (gf_below HG.out hb); have mHL_ := Aside0.mk (gf_below HL.out hb); have mHB_ := Aside0.mk (HB.out.trans (hb.mono HB.out.size)); clear FW HGB HG HL HB; have FW := mFW_; have HGB := mHGB_; have HG := mHG_; have HL := mHL_; have HB := mHB_; clear mFW_ mHGB_ mHG_ mHL_ mHB_; have hw0 := (blk_cell FW.out.now.1 0).trans (show _ = some (.int .i64 s1) from rfl); have hw1 := (blk_cell FW.out.now.1 1).trans (show _ = some (.slice A4 s2.length c4) from rfl); have hg0 := (blk_cell HGB.out.now 0).trans (show _ = some (.int .i64 s1) from rfl); have hg1 := (blk_cell HGB.out.now 1).trans (show _ = some (.slice A7 s2.length c7) from rfl); have HC22 := Aside0.mk (And.intro (Kd.C_below HC21.out.1 hb) (Kd.C_below HC21.out.2 hb)); clear HC21; have hu0 := (blk_cell hbk 0).trans (show _ = some (.int .i64 s1) from rfl); have hu1 := (blk_cell hbk 1).trans (show _ = some (.slice A21 s2.length c21) from rfl); clear hgw hb hbk))
  go_upto_region 32 with (first
   | (go_at_call 23; (with_reducible refine (laws_eqAig.calls kf s1 A21 c21 s2 s1 A4 c4 s2 true _ HC22.out.1 HL21.out.1 FW.out.now.2.1 HL4.out.1 heb).mono ?_); rintro e w23 ⟨rfl, hb⟩; clear hu0 hu1; have HC23 := Aside0.mk (Kd.C_below HC22.out.2 hb); clear HC22; clear hw0 hw1 hg0 hg1; have mFW_ := Aside0.mk (gf_below FW.out hb); have mHGB_ := Aside0.mk (gf_below HGB.out hb); have mHG_ := Aside0.mk (gf_below HG.out hb); have mHL_ := Aside0.mk (gf_below HL.out hb); have mHB_ := Aside0.mk (HB.out.trans (hb.mono HB.out.size)); clear FW HGB HG HL HB; have FW := mFW_; have HGB := mHGB_; have HG := mHG_; have HL := mHL_; have HB := mHB_; clear mFW_ mHGB_ mHG_ mHL_ mHB_; have hw0 := (blk_cell FW.out.now.1 0).trans (show _ = some (.int .i64 s1) from rfl); have hw1 := (blk_cell FW.out.now.1 1).trans (show _ = some (.slice A4 s2.length c4) from rfl); have hg0 := (blk_cell HGB.out.now 0).trans (show _ = some (.int .i64 s1) from rfl); have hg1 := (blk_cell HGB.out.now 1).trans (show _ = some (.slice A7 s2.length c7) from rfl); clear hb)
   | (go_at_call 24; (with_reducible refine (laws_eqIntS.calls kf A22 c22 s3 A4b c4b s3 true _ HC23.out HL21.out.2 FW.out.now.2.2 HL4.out.2 hei).mono ?_); rintro e w24 ⟨rfl, hd⟩; have hb := hd.below; clear hd HC23; clear hw0 hw1 hg0 hg1; have mFW_ := Aside0.mk (gf_below FW.out hb); have mHGB_ := Aside0.mk (gf_below HGB.out hb); have mHG_ := Aside0.mk (gf_below HG.out hb); have mHL_ := Aside0.mk (gf_below HL.out hb); have mHB_ := Aside0.mk (HB.out.trans (hb.mono HB.out.size)); clear FW HGB HG HL HB; have FW := mFW_; have HGB := mHGB_; have HG := mHG_; have HL := mHL_; have HB := mHB_; clear mFW_ mHGB_ mHG_ mHL_ mHB_; have hw0 := (blk_cell FW.out.now.1 0).trans (show _ = some (.int .i64 s1) from rfl); have hw1 := (blk_cell FW.out.now.1 1).trans (show _ = some (.slice A4 s2.length c4) from rfl); have hg0 := (blk_cell HGB.out.now 0).trans (show _ = some (.int .i64 s1) from rfl); have hg1 := (blk_cell HGB.out.now 1).trans (show _ = some (.slice A7 s2.length c7) from rfl); clear hb))
  go_wp2_with (first
   | (go_at_call 55; (with_reducible refine (heldA_at kf s1 A7 c7 s2.length m2 1 h1 _ HG.out.now hha).mono ?_); rintro e w25 ⟨rfl, hb⟩; clear hw0 hw1 hg0 hg1; have mFW_ := Aside0.mk (gf_below FW.out hb); have mHGB_ := Aside0.mk (gf_below HGB.out hb); have mHG_ := Aside0.mk (gf_below HG.out hb); have mHL_ := Aside0.mk (gf_below HL.out hb); have mHB_ := Aside0.mk (HB.out.trans (hb.mono HB.out.size)); clear FW HGB HG HL HB; have FW := mFW_; have HGB := mHGB_; have HG := mHG_; have HL := mHL_; have HB := mHB_; clear mFW_ mHGB_ mHG_ mHL_ mHB_; have hw0 := (blk_cell FW.out.now.1 0).trans (show _ = some (.int .i64 s1) from rfl); have hw1 := (blk_cell FW.out.now.1 1).trans (show _ = some (.slice A4 s2.length c4) from rfl); have hg0 := (blk_cell HGB.out.now 0).trans (show _ = some (.int .i64 s1) from rfl); have hg1 := (blk_cell HGB.out.now 1).trans (show _ = some (.slice A7 s2.length c7) from rfl); clear hb)
   | (go_at_call 56; (with_reducible refine (heldI_at kf A8 c8 s3.length n2 h1 h2 _ HL.out.now hhi).mono ?_); rintro e w26 ⟨rfl, hb⟩; clear hw0 hw1 hg0 hg1; have mFW_ := Aside0.mk (gf_below FW.out hb); have mHGB_ := Aside0.mk (gf_below HGB.out hb); have mHG_ := Aside0.mk (gf_below HG.out hb); have mHL_ := Aside0.mk (gf_below HL.out hb); have mHB_ := Aside0.mk (HB.out.trans (hb.mono HB.out.size)); clear FW HGB HG HL HB; have FW := mFW_; have HGB := mHGB_; have HG := mHG_; have HL := mHL_; have HB := mHB_; clear mFW_ mHGB_ mHG_ mHL_ mHB_; have hw0 := (blk_cell FW.out.now.1 0).trans (show _ = some (.int .i64 s1) from rfl); have hw1 := (blk_cell FW.out.now.1 1).trans (show _ = some (.slice A4 s2.length c4) from rfl); have hg0 := (blk_cell HGB.out.now 0).trans (show _ = some (.int .i64 s1) from rfl); have hg1 := (blk_cell HGB.out.now 1).trans (show _ = some (.slice A7 s2.length c7) from rfl); clear hb))
  go_ret
  exact ⟨rfl, HB.out⟩
 ·rw [if_neg hc] at h
  cases h
end Go.Proofs.Ytcmkkoggdcjceaa.PFnExactBuildAig
end
section
set_option linter.unusedVariables false
set_option linter.unusedSimpArgs false
namespace Go.Proofs.Ytcmkkoggdcjceaa.Reads
open Go.RowKit Go.ChangeShapes Go.WideShapes Go.Deep Go.Proofs.YtcmkkoggdcjceaaW.PrintWords
def ReadsN (P : Program) (n : Nat) (t : TypeId) {α : Type} (d : Kd α) (wf : α → Prop) : Prop :=
 ∀ (H : Type) (enc : TypeId × Value → H) (w : World) (base : Nat) (spare : Nat → Bool) (held : Bool) (cs : List Value) (x : DataW H × List MemPlace),
  DataW.trod enc P w base spare held n t cs = some x → (x.1.weights P t).all (· ≤ reachBytes) = true → ∃ a : α, d.K w a cs ∧ wf a
def Reads (P : Program) (t : TypeId) {α : Type} (d : Kd α) (wf : α → Prop) : Prop := ∀ n, ReadsN P n t d wf
theorem wf_i64 {z : Int} (h : (Lit.int .i64 z).wf = true) : -9223372036854775808 ≤ z ∧ z ≤ 9223372036854775807 := by
 simp only [Lit.wf, Bool.and_eq_true, decide_eq_true_eq] at h
 exact h
def WFI (z : Int) : Prop := -9223372036854775808 ≤ z ∧ z ≤ 9223372036854775807
def WFL {α : Type} (b : Nat) (wf : α → Prop) (l : List α) : Prop := l.length * b ≤ 140737488351232 ∧ ∀ x ∈ l, wf x
theorem int {P : Program} {n : Nat} {t : TypeId} (ht : P.underlying t = some (.int .i64)) : ReadsN P n t (Kd.int .i64) WFI := by
 intro H enc w base spare held cs x h _
 obtain ⟨z, rfl, rfl, hw⟩ := DataW.trod_int ht h
 exact ⟨z, rfl, wf_i64 hw⟩
theorem all_of {H : Type} {P : Program} {e : TypeId} : ∀ {l : List (DataW H)}, (DataW.weightsAll P e l).all (· ≤ reachBytes) = true → ∀ d ∈ l, (d.weights P e).all (· ≤ reachBytes) = true
 | [], _, d, hd => by cases hd
 | y :: r, h, d, hd => by
  simp only [DataW.weightsAll, List.all_append, Bool.and_eq_true] at h
  rcases List.mem_cons.1 hd with rfl | hd
  ·exact h.1
  ·exact all_of h.2 d hd
theorem slice {P : Program} {n : Nat} {t e : TypeId} {α : Type} {d : Kd α} {wf : α → Prop} {b : Nat} (ht : P.underlying t = some (.slice e)) (hc : P.cellsOf e = d.sz) (hb : P.bytesOf e = b) (he : ∀ m, m < n → ReadsN P m e d wf) :
  ReadsN P n t (Kd.slice e d) (WFL b wf) := by
 intro H enc w base spare held cs x h hr
 cases n with
 | zero => simp [DataW.trod] at h
 | succ n =>
  have h' := h
  simp only [DataW.trod, ht] at h'
  match cs, h' with
  | [.slice none 0 0], h' =>
   refine ⟨[], ⟨none, 0, rfl, Nat.le_refl _, rfl, by simp, fun h => absurd h (Nat.lt_irrefl 0)⟩, by simp, fun x hx => by cases hx⟩
  | [.slice (some a) len cap], h' =>
   simp only at h'
   split at h'
   ·rename_i hcond
    obtain ⟨elems, hel, h2⟩ := Option.bind_eq_some_iff.1 h'
    obtain ⟨rest, hrest, rfl⟩ := Option.map_eq_some_iff.1 h2
    simp only [DataW.weights, ht, List.all_cons, List.all_append, Bool.and_eq_true, hb, List.length_map, decide_eq_true_eq] at hr
    have hlen : elems.length = len := by simpa using mapM_some_length hel
    have hget : ∀ i, i < len → ∃ y : α, wf y ∧ ∃ c, c.length = d.sz ∧ d.K w y c ∧ ∀ j u, c[j]? = some u → w.cell? (a.add (i * d.sz + j)) = some u := by
     intro i hi
     have h3 := mapM_some_get hel i i (by simp [hi])
     rw [List.getElem?_eq_getElem (by omega)] at h3
     obtain ⟨cs', hcs, htr⟩ := Option.bind_eq_some_iff.1 h3
     obtain ⟨y, hK, hw⟩ := he n (Nat.lt_succ_self n) H enc w base spare held cs' _ htr (all_of hr.2.1 _ (List.mem_map.2 ⟨elems[i]'(by omega), List.getElem_mem _, rfl⟩))
     obtain ⟨_, hcl, hat⟩ := World.cells?_some hcs
     rw [hc] at hcl hat
     refine ⟨y, hw, cs', hcl, hK, fun j u hj => ?_⟩
     have hjl : j < d.sz := by
      rw [← hcl]
      exact (List.getElem?_eq_some_iff.1 hj).1
     rw [← Deep.add_add, hat j hjl, hj]
    rcases Nat.eq_zero_or_pos len with hz | hz
    ·subst hz
     refine ⟨[], ⟨some a, cap, rfl, Nat.zero_le _, rfl, by simp, fun h => absurd h (Nat.lt_irrefl 0)⟩, by simp, fun x hx => by cases hx⟩
    have hinh : Inhabited α := ⟨(hget 0 hz).choose⟩
    obtain ⟨f, hf⟩ := choose_lt hget
    refine ⟨(List.range len).map f, ⟨some a, cap, ?_, ?_, ?_, ?_, ?_⟩, ?_, ?_⟩
    ·simp
    ·simpa using hcond.2.1
    ·simp
    ·have := hcond.2.2
     have := hcond.2.1
     simp [maxLen] at *
     omega
    ·intro _
     refine ⟨a, rfl, fun j p hj => ?_⟩
     have hjl : j < len := by
      have := (List.getElem?_eq_some_iff.1 hj).1
      simpa using this
     simp [hjl] at hj
     subst hj
     obtain ⟨_, c, h1, h2, h3⟩ := hf j hjl
     exact ⟨c, h1, h2, h3⟩
    ·have h4 := hr.1
     simp only [reachBytes] at h4
     have : len * b ≤ (elems.length + rest.length) * b := Nat.mul_le_mul_right _ (by omega)
     simp
     omega
    ·intro y hy
     obtain ⟨i, hi, rfl⟩ := List.mem_map.1 hy
     exact (hf i (by simpa using hi)).1
   ·cases h'
theorem intR {P : Program} {t : TypeId} (ht : P.underlying t = some (.int .i64)) : Reads P t (Kd.int .i64) WFI := fun _ => int ht
theorem sliceR {P : Program} {t e : TypeId} {α : Type} {d : Kd α} {wf : α → Prop} {b : Nat} (ht : P.underlying t = some (.slice e)) (hc : P.cellsOf e = d.sz) (hb : P.bytesOf e = b) (he : Reads P e d wf) : Reads P t (Kd.slice e d) (WFL b wf) :=
 fun _ => slice ht hc hb (fun m _ => he m)
def FieldsN (P : Program) (n : Nat) (fs : List Field) (off : Nat) {α : Type} (d : Kd α) (wf : α → Prop) : Prop :=
 ∀ (H : Type) (enc : TypeId × Value → H) (w : World) (base : Nat) (spare : Nat → Bool) (held : Bool) (cs : List Value) (xs : List (DataW H × List MemPlace)),
  (fs.mapM fun f => DataW.trod enc P w base spare held n f.type ((cs.drop f.offset).take (P.cellsOf f.type))) = some xs →
  (DataW.weightsEach P (fs.map (·.type)) (xs.map (·.1))).all (· ≤ reachBytes) = true → cs.length = off + d.sz → ∃ a : α, d.K w a (cs.drop off) ∧ wf a
theorem last {P : Program} {n : Nat} {f : Field} {off : Nat} {α : Type} {d : Kd α} {wf : α → Prop} (ho : f.offset = off) (hc : P.cellsOf f.type = d.sz) (h : ReadsN P n f.type d wf) : FieldsN P n [f] off d wf := by
 intro H enc w base spare held cs xs hm hr hl
 simp only [List.mapM_cons, List.mapM_nil, Option.bind_eq_bind, Option.bind_eq_some_iff, Option.pure_def, Option.some.injEq] at hm
 obtain ⟨y, hy, _, rfl, rfl⟩ := hm
 rw [ho, hc, List.take_of_length_le (by rw [List.length_drop]; omega)] at hy
 simp only [List.map_cons, List.map_nil, DataW.weightsEach, List.append_nil] at hr
 exact h H enc w base spare held _ _ hy hr
theorem more {P : Program} {n : Nat} {f : Field} {fs : List Field} {off : Nat} {α β : Type} {d : Kd α} {d' : Kd β} {wf : α → Prop} {wf' : β → Prop} (ho : f.offset = off) (hc : P.cellsOf f.type = d.sz)
  (h : ReadsN P n f.type d wf) (h' : FieldsN P n fs (off + d.sz) d' wf') : FieldsN P n (f :: fs) off (Kd.pair d d') (fun x => wf x.1 ∧ wf' x.2) := by
 intro H enc w base spare held cs xs hm hr hl
 simp only [List.mapM_cons, Option.bind_eq_bind, Option.bind_eq_some_iff, Option.pure_def, Option.some.injEq] at hm
 obtain ⟨y, hy, ys, hys, rfl⟩ := hm
 simp only [List.map_cons, DataW.weightsEach, List.all_append, Bool.and_eq_true] at hr
 have hl' : cs.length = off + (d.sz + d'.sz) := hl
 rw [ho, hc] at hy
 obtain ⟨a, hK, hw⟩ := h H enc w base spare held _ _ hy hr.1
 obtain ⟨b, hK', hw'⟩ := h' H enc w base spare held cs ys hys hr.2 (by omega)
 refine ⟨(a, b), ⟨_, _, ?_, hK, hK'⟩, hw, hw'⟩
 have := (List.take_append_drop d.sz (cs.drop off)).symm
 rwa [List.drop_drop] at this
theorem struct {P : Program} {n : Nat} {t : TypeId} {fs : Array Field} {α β : Type} {d : Kd α} {wf : α → Prop} (f : β → α) (g : α → β) (hfg : ∀ a, f (g a) = a) (ht : P.underlying t = some (.struct fs)) (hc : P.cellsOf t = d.sz)
  (h : ∀ m, m < n → FieldsN P m fs.toList 0 d wf) : ReadsN P n t (Kd.iso d f) (fun x => wf (f x)) := by
 intro H enc w base spare held cs x hx hr
 cases n with
 | zero => simp [DataW.trod] at hx
 | succ n =>
  simp only [DataW.trod, ht] at hx
  have hx' : cs.length = P.cellsOf t ∧ ∃ xs, (fs.toList.mapM fun f => DataW.trod enc P w base spare held n f.type ((cs.drop f.offset).take (P.cellsOf f.type))) = some xs ∧ (.agg (xs.map (·.1)), xs.flatMap (·.2)) = x := by
   split at hx <;> simp_all
  obtain ⟨hl, xs, hm, rfl⟩ := hx'
  simp only [DataW.weights, ht] at hr
  obtain ⟨a, hK, hw⟩ := h n (Nat.lt_succ_self n) H enc w base spare held cs xs hm hr (by rw [hl, hc]; omega)
  rw [List.drop_zero] at hK
  exact ⟨g a, by show d.K w (f (g a)) cs; rw [hfg]; exact hK, by show wf (f (g a)); rw [hfg]; exact hw⟩
theorem nested {P : Program} {t : TypeId} {α : Type} {F : Kd α → Kd α} {sz : Nat} {E : List Nat} {hs : ∀ n, (Kd.upto F sz E n).sz = sz} {hE : ∀ n q, q ∈ (Kd.upto F sz E n).E → q ∈ E} {wf : Nat → α → Prop}
  (h : ∀ n, (∀ m, m ≤ n → ReadsN P m t (Kd.upto F sz E n) (wf n)) → ∀ m, m ≤ n + 1 → ReadsN P m t (F (Kd.upto F sz E n)) (wf (n + 1))) : Reads P t (Kd.fix F sz E hs hE) (fun x => ∃ n, wf n x) := by
 have key : ∀ n m, m ≤ n → ReadsN P m t (Kd.upto F sz E n) (wf n) := by
  intro n
  induction n with
  | zero =>
   intro m hm H enc w base spare held cs x hx
   obtain rfl : m = 0 := by omega
   simp [DataW.trod] at hx
  | succ n ih => exact h n ih
 intro n H enc w base spare held cs x hx hr
 obtain ⟨a, hK, hw⟩ := key n n (Nat.le_refl _) H enc w base spare held cs x hx hr
 exact ⟨a, ⟨n, hK⟩, n, hw⟩
theorem each_of {H : Type} {P : Program} : ∀ {ts : List TypeId} {ds : List (DataW H)} {j : Nat} {t : TypeId} {d : DataW H}, (DataW.weightsEach P ts ds).all (· ≤ reachBytes) = true → ts[j]? = some t → ds[j]? = some d → (d.weights P t).all (· ≤ reachBytes) = true
 | [], _, _, _, _, _, h, _ => by simp at h
 | _ :: _, [], _, _, _, _, _, h => by simp at h
 | t0 :: ts, d0 :: ds, 0, t, d, h, ht, hd => by
  simp only [List.getElem?_cons_zero, Option.some.injEq] at ht hd
  subst ht hd
  simp only [DataW.weightsEach, List.all_append, Bool.and_eq_true] at h
  exact h.1
 | t0 :: ts, d0 :: ds, j + 1, t, d, h, ht, hd => by
  simp only [DataW.weightsEach, List.all_append, Bool.and_eq_true] at h
  exact each_of (j := j) h.2 (by simpa using ht) (by simpa using hd)
theorem arg {H : Type} {enc : TypeId × Value → H} {P : Program} {W : World} {base : Nat} {spare : Nat → Bool} {held : Bool} {t : TypeId} {v : Value} {d : DataW H} {ps : List MemPlace} {ts : List TypeId} {ds : List (DataW H)} {j : Nat} {α : Type} {k : Kd α} {wf : α → Prop}
  (hk : Reads P t k wf) (hsz : (DataW.weightsEach P ts ds).all (· ≤ reachBytes) = true) (ht : ts[j]? = some t) (hd : ds[j]? = some d) (h : DataW.Trod enc P W base spare held t v d ps) : ∃ a : α, k.K W a v.cells.toList ∧ wf a := by
 obtain ⟨fuel, hf⟩ := h
 exact hk fuel H enc W base spare held _ _ hf (each_of hsz ht hd)
end Go.Proofs.Ytcmkkoggdcjceaa.Reads
end
section
set_option linter.unusedVariables false
namespace Go.Proofs.Ytcmkkoggdcjceaa.PFnExactBuildAig
open Go.RowKit Go.Proofs.YtcmkkoggdcjceaaW.PrintWords Go.Proofs.YtcmkkoggdcjceaaW.PrintLast Go.Proofs.Ytcmkkoggdcjceaa
def wf24N : Nat → S24 → Prop
 | 0, _ => False
 | n + 1, x => Reads.WFI x.f0 ∧ (Reads.WFI x.f1 ∧ (Reads.WFL 40 (wf24N n) x.f2))
def wf24 (x : S24) : Prop := ∃ n, wf24N n x
def laws_FnExactBuildAig.Pure : Prop := ∀ (a0 : Int) (l1 : List (S24)), Reads.WFI a0 → (Reads.WFL 40 wf24) l1 → ∃ k, laws_FnExactBuildAig.f k a0 l1 = some true
theorem rk24 : Reads.Reads Try.prog 24 k24 wf24 := Reads.nested (wf := wf24N) (fun n h_ m_ hm_ => Reads.struct (wf := fun p => Reads.WFI (p.1) ∧ (Reads.WFI (p.2.1) ∧ (Reads.WFL 40 (wf24N n) (p.2.2)))) (fun x : S24 => (x.f0, x.f1, x.f2)) (fun p => ⟨p.1, p.2.1, p.2.2⟩) (fun _ => rfl) Try.underlying24 (by kernel_rfl) (fun m _ => (Reads.more rfl (by kernel_rfl) ((Reads.intR Try.underlying3) m) (Reads.more rfl (by kernel_rfl) ((Reads.intR Try.underlying3) m) (Reads.last rfl (by kernel_rfl) (Reads.slice (n := m) (t := 22) (e := 24) Try.underlying22 (by rw [sz24]; kernel_rfl) (by kernel_rfl) (fun q_ hq_ => h_ q_ (by omega))))))))
end Go.Proofs.Ytcmkkoggdcjceaa.PFnExactBuildAig
end
section
set_option linter.unusedVariables false
set_option linter.unusedSimpArgs false
namespace Go.Proofs.Ytcmkkoggdcjceaa.Plain
open Go.RowKit Go.Proofs.YtcmkkoggdcjceaaW.PrintWords
section
variable {α β : Type}
theorem ifp {c : Prop} [Decidable c] {f g : Nat → Option α} {r : α} (h : c) (k : Ev f r) : Ev (fun n => if c then f n else g n) r := by
 obtain ⟨K, hK⟩ := k
 exact ⟨K, fun n hn => by simp only [if_pos h]; exact hK n hn⟩
theorem ifn {c : Prop} [Decidable c] {f g : Nat → Option α} {r : α} (h : ¬ c) (k : Ev g r) : Ev (fun n => if c then f n else g n) r := by
 obtain ⟨K, hK⟩ := k
 exact ⟨K, fun n hn => by simp only [if_neg h]; exact hK n hn⟩
theorem bnd {g : Nat → Option α} {f : Nat → α → Option β} {a : α} {r : β} (h : Ev g a) (k : Ev (fun n => f n a) r) : Ev (fun n => (g n).bind (f n)) r := Ev.bind h k
theorem bnd0 {g : Option α} {f : Nat → α → Option β} {a : α} {r : β} (h : g = some a) (k : Ev (fun n => f n a) r) : Ev (fun n => g.bind (f n)) r := by
 obtain ⟨K, hK⟩ := k
 exact ⟨K, fun n hn => by rw [h]; exact hK n hn⟩
theorem stp {g f : Nat → Option α} {r : α} (h : ∀ k, g (k + 1) = f k) (k : Ev f r) : Ev g r := Ev.step h k
theorem evc {g f : Nat → Option α} {r : α} (h : ∀ k, g k = f k) (k : Ev f r) : Ev g r := Ev.congr h k
theorem sm (r : α) : Ev (fun _ => some r) r := Ev.now r
end
theorem up {i n : Int} (h0 : 0 ≤ i) (h : i < n) (hn : n ≤ 9223372036854775807) : wrap64 (i + 1) = i + 1 := by
 unfold wrap64
 omega
theorem w64 {x : Int} (h0 : -9223372036854775808 ≤ x) (h : x ≤ 9223372036854775807) : wrap64 x = x := by
 unfold wrap64
 omega
theorem set_take {α β : Type} (f : α → β) (xs : List α) (out : List β) (i : Nat) (x : α) (hx : xs[i]? = some x) (hl : out.length = xs.length) (h : out.take i = (xs.take i).map f) :
  (out.set i (f x)).take (i + 1) = (xs.take (i + 1)).map f := by
 have hi : i < xs.length := (List.getElem?_eq_some_iff.1 hx).1
 rw [List.take_succ_eq_append_getElem (by simp; omega), List.take_succ_eq_append_getElem hi, List.map_append, List.map_singleton, ← h]
 congr 1
 ·rw [List.take_set]
  apply List.set_eq_of_length_le
  simp
  omega
 ·rw [List.getElem_set_self]
  rw [(List.getElem?_eq_some_iff.1 hx).2]
theorem copy {α β : Type} (f : α → β) (xs : List α) (L : Int → List β → Nat → Option (List β))
  (hend : ∀ out, Ev (L (xs.length : Int) out) out)
  (hstep : ∀ (i : Nat) (out : List β) (r : List β) (x : α), xs[i]? = some x → out.length = xs.length → Ev (L ((i : Int) + 1) (out.set i (f x))) r → Ev (L (i : Int) out) r) :
  ∀ out, out.length = xs.length → Ev (L 0 out) (xs.map f) := by
 have key : ∀ (d i : Nat) (out : List β), i + d = xs.length → out.length = xs.length → out.take i = (xs.take i).map f → Ev (L (i : Int) out) (xs.map f) := by
  intro d
  induction d with
  | zero =>
   intro i out hd hl ht
   have hi : i = xs.length := by omega
   subst hi
   rw [List.take_of_length_le (by omega), List.take_of_length_le (by omega)] at ht
   subst ht
   exact hend _
  | succ d ih =>
   intro i out hd hl ht
   have hi : i < xs.length := by omega
   have hx : xs[i]? = some xs[i] := List.getElem?_eq_getElem hi
   refine hstep i out _ _ hx hl ?_
   have := ih (i + 1) (out.set i (f xs[i])) (by omega) (by simpa using hl) (set_take f xs out i _ hx hl ht)
   rwa [show ((i + 1 : Nat) : Int) = (i : Int) + 1 by omega] at this
 intro out hl
 have := key xs.length 0 out (by omega) hl (by simp)
 simpa using this
theorem same {α : Type} (xs : List α) (L : Int → Nat → Option Bool)
  (hend : Ev (L (xs.length : Int)) true)
  (hstep : ∀ (i : Nat) (x : α), xs[i]? = some x → Ev (L ((i : Int) + 1)) true → Ev (L (i : Int)) true) : Ev (L 0) true := by
 have key : ∀ (d i : Nat), i + d = xs.length → Ev (L (i : Int)) true := by
  intro d
  induction d with
  | zero =>
   intro i hd
   have hi : i = xs.length := by omega
   subst hi
   exact hend
  | succ d ih =>
   intro i hd
   have hi : i < xs.length := by omega
   refine hstep i _ (List.getElem?_eq_getElem hi) ?_
   have := ih (i + 1) (by omega)
   rwa [show ((i + 1 : Nat) : Int) = (i : Int) + 1 by omega] at this
 simpa using key xs.length 0 (by omega)
theorem getD_some {α : Type} {xs : List α} {i : Nat} {x d : α} (h : xs[i]? = some x) : xs.getD ((i : Int).toNat) d = x := by
 simp [List.getD, h]
end Go.Proofs.Ytcmkkoggdcjceaa.Plain
end
section
set_option linter.unusedVariables false
set_option linter.unusedSimpArgs false
namespace Go.Proofs.Ytcmkkoggdcjceaa.Pure
open Go.RowKit Go.Proofs.Ytcmkkoggdcjceaa Go.Proofs.Ytcmkkoggdcjceaa.PFnExactBuildAig Go.Proofs.YtcmkkoggdcjceaaW.PrintWords Go.Proofs.YtcmkkoggdcjceaaW.PrintLast Go.Proofs.YtcmkkoggdcjceaaW.PrintMore Go.Proofs.Ytcmkkoggdcjceaa.Plain
mutual
def cv : S24 → S31
 | ⟨a, b, l⟩ => ⟨a, b, cvs l⟩
def cvs : List S24 → List S31
 | [] => []
 | x :: r => cv x :: cvs r
end
theorem cvs_map (l : List S24) : cvs l = l.map cv := by
 induction l with
 | nil => rfl
 | cons x r ih => rw [cvs, List.map_cons, ih]
theorem cv_0 (x : S24) : (cv x).f0 = x.f0 := by
 obtain ⟨a, b, l⟩ := x
 rw [cv]
theorem cv_1 (x : S24) : (cv x).f1 = x.f1 := by
 obtain ⟨a, b, l⟩ := x
 rw [cv]
theorem cv_2 (x : S24) : (cv x).f2 = x.f2.map cv := by
 obtain ⟨a, b, l⟩ := x
 rw [cv]
 exact cvs_map l
theorem cv_mk (x : S24) : (⟨x.f0, x.f1, x.f2.map cv⟩ : S31) = cv x := by
 obtain ⟨a, b, l⟩ := x
 rw [cv, cvs_map]
abbrev WL (n : Nat) (l : List S24) : Prop := Reads.WFL 40 (wf24N n) l
theorem wl_le {n m : Nat} (h : n ≤ m) : ∀ x, wf24N n x → wf24N m x := by
 induction n generalizing m with
 | zero => exact fun x hx => hx.elim
 | succ n ih =>
  intro x hx
  cases m with
  | zero => omega
  | succ m => exact ⟨hx.1, hx.2.1, hx.2.2.1, fun y hy => ih (by omega) y (hx.2.2.2 y hy)⟩
theorem wl_of {l : List S24} (h : Reads.WFL 40 wf24 l) : ∃ n, WL n l := by
 have : ∀ l : List S24, (∀ x ∈ l, wf24 x) → ∃ n, ∀ x ∈ l, wf24N n x := by
  intro l
  induction l with
  | nil => exact fun _ => ⟨0, fun x hx => by cases hx⟩
  | cons a r ih =>
   intro h
   obtain ⟨n, hn⟩ := ih fun x hx => h x (List.mem_cons_of_mem _ hx)
   obtain ⟨m, hm⟩ := h a List.mem_cons_self
   refine ⟨n + m, fun x hx => ?_⟩
   rcases List.mem_cons.1 hx with rfl | hx
   ·exact wl_le (by omega) _ hm
   ·exact wl_le (by omega) _ (hn x hx)
 obtain ⟨n, hn⟩ := this l h.2
 exact ⟨n, h.1, hn⟩
theorem toS_is (n : Nat) : ∀ l, WL n l → Ev (fun k => laws_toExS.f k l) (l.map cv) := by
 induction n with
 | zero =>
  intro l h
  cases l with
  | cons x r => exact (h.2 x List.mem_cons_self).elim
  | nil => exact stp (fun k => laws_toExS.f.eq_2 ..) (ifp (by simp) (ifp (by simp) (stp (fun k => laws_toExS.l0.eq_2 ..) (ifn (by simp) (sm _)))))
 | succ n ih =>
  intro l h
  have hl : l.length * 40 ≤ 140737488351232 := h.1
  refine stp (fun k => laws_toExS.f.eq_2 ..) (ifp (by omega) (ifp (by omega) ?_))
  refine copy cv l (fun i out k => laws_toExS.l0 k l out i) ?_ ?_ (List.replicate (l.length : Int).toNat z31) (by simp)
  ·intro out
   exact stp (fun k => laws_toExS.l0.eq_2 ..) (ifn (by omega) (sm _))
  ·intro i out r x hx hlen hk
   have hi : i < l.length := (List.getElem?_eq_some_iff.1 hx).1
   have hw := h.2 x (List.mem_of_getElem? hx)
   refine stp (fun k => laws_toExS.l0.eq_2 ..) (ifp (by omega) (ifp (by omega) ?_))
   rw [show rd_T24 l (i : Int) = x from getD_some hx, up (by omega) (by omega : (i : Int) < (l.length : Int)) (by omega), Int.toNat_natCast]
   refine bnd (a := (x.f0, x.f1, x.f2.map cv)) (bnd (ih x.f2 hw.2.2) (sm _)) (ifp (by omega) ?_)
   show Ev (fun k => laws_toExS.l0 k l (out.set i ⟨x.f0, x.f1, x.f2.map cv⟩) ((i : Int) + 1)) r
   rw [cv_mk]
   exact hk
def HN : Nat → S31 → Prop
 | 0, _ => False
 | n + 1, x => Reads.WFI x.f0 ∧ (Reads.WFI x.f1 ∧ Reads.WFL 40 (HN n) x.f2)
abbrev HL (n : Nat) (l : List S31) : Prop := Reads.WFL 40 (HN n) l
theorem HN_cv (n : Nat) : ∀ x, wf24N n x → HN n (cv x) := by
 induction n with
 | zero => exact fun x h => h.elim
 | succ n ih =>
  intro x h
  refine ⟨by rw [cv_0]; exact h.1, by rw [cv_1]; exact h.2.1, ?_⟩
  rw [cv_2]
  refine ⟨by simpa using h.2.2.1, fun y hy => ?_⟩
  obtain ⟨z, hz, rfl⟩ := List.mem_map.1 hy
  exact ih z (h.2.2.2 z hz)
theorem HL_cv (n : Nat) (l : List S24) (h : WL n l) : HL n (l.map cv) := by
 refine ⟨by simpa using h.1, fun y hy => ?_⟩
 obtain ⟨z, hz, rfl⟩ := List.mem_map.1 hy
 exact HN_cv n z (h.2 z hz)
theorem eqS_self (n : Nat) : ∀ l, HL n l → Ev (fun k => laws_eqExS.f k l l) true := by
 induction n with
 | zero =>
  intro l h
  cases l with
  | cons x r => exact (h.2 x List.mem_cons_self).elim
  | nil => exact stp (fun k => laws_eqExS.f.eq_2 ..) (ifp rfl (stp (fun k => laws_eqExS.l0.eq_2 ..) (ifn (by simp) (sm _))))
 | succ n ih =>
  intro l h
  have hl : l.length * 40 ≤ 140737488351232 := h.1
  refine stp (fun k => laws_eqExS.f.eq_2 ..) (ifp rfl ?_)
  refine same l (fun i k => laws_eqExS.l0 k l l i) ?_ ?_
  ·exact stp (fun k => laws_eqExS.l0.eq_2 ..) (ifn (by omega) (sm _))
  ·intro i x hx hk
   have hi : i < l.length := (List.getElem?_eq_some_iff.1 hx).1
   have hw := h.2 x (List.mem_of_getElem? hx)
   refine stp (fun k => laws_eqExS.l0.eq_2 ..) (ifp (by omega) (ifp (by omega) (ifp (by omega) ?_)))
   rw [show rd_T31 l (i : Int) = x from getD_some hx, up (by omega) (by omega : (i : Int) < (l.length : Int)) (by omega)]
   exact bnd (a := true) (ifp rfl (ifp rfl (bnd (ih x.f2 hw.2.2) (ifp rfl (sm _))))) (ifp rfl hk)
mutual
/-- how many nodes a tree has -/
def nodes : S31 → Nat
 | ⟨_, _, l⟩ => 1 + nodess l
def nodess : List S31 → Nat
 | [] => 0
 | x :: r => nodes x + nodess r
end
theorem nodes_pos (x : S31) : 1 ≤ nodes x := by
 obtain ⟨a, b, l⟩ := x
 rw [nodes]
 omega
theorem eta (x : S31) : (⟨x.f0, x.f1, x.f2⟩ : S31) = x := by
 obtain ⟨a, b, l⟩ := x
 rfl
mutual
/-- nothing stands too deep -/
def deepB : S31 → Int → Bool
 | ⟨_, _, l⟩, d => decide (d ≤ 40) && deepBs l (d + 1)
def deepBs : List S31 → Int → Bool
 | [], _ => true
 | x :: r, d => deepB x d && deepBs r d
end
theorem left_step (a b : Int) (l : List S31) (hl : l.length * 40 ≤ 140737488351232) (dp : Int) (hd0 : 0 ≤ dp) (hd1 : dp ≤ 40) (ih : ∀ x ∈ l, ∀ left : Int, 0 ≤ left → left ≤ 1048576 → ∃ v : Int, -1 ≤ v ∧ v ≤ 1048576 ∧ Ev (fun k => spec_l04Left.f k x.f0 x.f1 x.f2 left (dp + 1)) v ∧ (0 ≤ v ↔ (deepB x (dp + 1) = true ∧ ((nodes x : Nat) : Int) ≤ left)) ∧ (0 ≤ v → v = left - ((nodes x : Nat) : Int))) :
  ∀ (d i : Nat) (lf : Int), i + d = l.length → -1 ≤ lf → lf ≤ 1048576 → ∃ v : Int, -1 ≤ v ∧ v ≤ 1048576 ∧ Ev (fun k => spec_l04Left.l0 k lf dp (i : Int) a b l) v ∧ (0 ≤ v ↔ (deepBs (l.drop i) (dp + 1) = true ∧ ((nodess (l.drop i) : Nat) : Int) ≤ lf)) ∧ (0 ≤ v → v = lf - ((nodess (l.drop i) : Nat) : Int)) := by
 intro d
 induction d with
 | zero =>
  intro i lf hi hf0 hf1
  obtain rfl : i = l.length := by omega
  refine ⟨lf, hf0, hf1, stp (fun k => spec_l04Left.l0.eq_2 ..) (ifn (by omega) (sm _)), ?_, ?_⟩
  ·rw [List.drop_length, nodess, deepBs]
   simp
  ·rw [List.drop_length, nodess]
   omega
 | succ d ihd =>
  intro i lf hi hf0 hf1
  have hil : i < l.length := by omega
  have hx : l[i]? = some l[i] := List.getElem?_eq_getElem hil
  rw [List.drop_eq_getElem_cons hil, nodess, deepBs]
  have hp := nodes_pos l[i]
  by_cases hneg : lf ≥ 0
  ·obtain ⟨v, hv0, hv1, hv, hv2, hv3⟩ := ih l[i] (List.getElem_mem hil) lf hneg hf1
   obtain ⟨u, hu0, hu1, hu, hu2, hu3⟩ := ihd (i + 1) v (by omega) hv0 hv1
   refine ⟨u, hu0, hu1, stp (fun k => spec_l04Left.l0.eq_2 ..) (ifp (by omega) (ifp hneg (ifp (by omega) ?_))), ?_, ?_⟩
   ·rw [show rd_T31 l (i : Int) = l[i] from getD_some hx, up (by omega) (by omega : (i : Int) < (l.length : Int)) (by omega), w64 (x := dp + 1) (by omega) (by omega)]
    rw [show ((i + 1 : Nat) : Int) = (i : Int) + 1 by omega] at hu
    exact bnd hv hu
   ·rw [Bool.and_eq_true, hu2]
    constructor
    ·rintro ⟨h1, h2⟩
     have hv' := hv2.1 (by omega)
     have := hv3 (by omega)
     exact ⟨⟨hv'.1, h1⟩, by omega⟩
    ·rintro ⟨⟨h1, h2⟩, h3⟩
     have h4 := hv2.2 ⟨h1, by omega⟩
     have := hv3 h4
     exact ⟨h2, by omega⟩
   ·intro h
    have h1 := hu2.1 h
    have h2 := hv3 (by omega)
    have := hu3 h
    omega
  ·refine ⟨lf, hf0, hf1, stp (fun k => spec_l04Left.l0.eq_2 ..) (ifp (by omega) (ifn hneg (sm _))), ?_, ?_⟩
   ·constructor
    ·intro h
     omega
    ·rintro ⟨_, h⟩
     omega
   ·omega
theorem left_is (n : Nat) : ∀ (a b : Int) (l : List S31), HL n l → ∀ dp : Int, 0 ≤ dp → dp ≤ 100 → ∀ left : Int, 0 ≤ left → left ≤ 1048576 → ∃ v : Int, -1 ≤ v ∧ v ≤ 1048576 ∧ Ev (fun k => spec_l04Left.f k a b l left dp) v ∧ (0 ≤ v ↔ (deepB ⟨a, b, l⟩ dp = true ∧ ((nodes ⟨a, b, l⟩ : Nat) : Int) ≤ left)) ∧ (0 ≤ v → v = left - ((nodes ⟨a, b, l⟩ : Nat) : Int)) := by
 induction n with
 | zero =>
  intro a b l h dp hd0 hd1 left h0 h1
  by_cases hdp : dp > 40
  ·refine ⟨-1, by omega, by omega, stp (fun k => spec_l04Left.f.eq_2 ..) (ifp hdp (sm _)), ?_, by omega⟩
   rw [deepB, decide_eq_false (by omega)]
   simp
  ·obtain ⟨v, hv0, hv1, hev, h2, h3⟩ := left_step a b l h.1 dp hd0 (by omega) (fun x hx => (h.2 x hx).elim) l.length 0 (left - 1) (by omega) (by omega) (by omega)
   rw [List.drop_zero] at h2 h3
   refine ⟨v, hv0, hv1, stp (fun k => spec_l04Left.f.eq_2 ..) (ifn hdp ?_), ?_, ?_⟩
   ·rw [w64 (by omega) (by omega)]
    exact hev
   ·rw [nodes, deepB, decide_eq_true (by omega : dp ≤ 40), Bool.true_and, h2]
    constructor
    ·rintro ⟨q1, q2⟩; exact ⟨q1, by omega⟩
    ·rintro ⟨q1, q2⟩; exact ⟨q1, by omega⟩
   ·rw [nodes]
    omega
 | succ n ih =>
  intro a b l h dp hd0 hd1 left h0 h1
  by_cases hdp : dp > 40
  ·refine ⟨-1, by omega, by omega, stp (fun k => spec_l04Left.f.eq_2 ..) (ifp hdp (sm _)), ?_, by omega⟩
   rw [deepB, decide_eq_false (by omega)]
   simp
  ·obtain ⟨v, hv0, hv1, hev, h2, h3⟩ := left_step a b l h.1 dp hd0 (by omega) (fun x hx left q0 q1 => by
    have := ih x.f0 x.f1 x.f2 (h.2 x hx).2.2 (dp + 1) (by omega) (by omega) left q0 q1
    rwa [eta x] at this) l.length 0 (left - 1) (by omega) (by omega) (by omega)
   rw [List.drop_zero] at h2 h3
   refine ⟨v, hv0, hv1, stp (fun k => spec_l04Left.f.eq_2 ..) (ifn hdp ?_), ?_, ?_⟩
   ·rw [w64 (by omega) (by omega)]
    exact hev
   ·rw [nodes, deepB, decide_eq_true (by omega : dp ≤ 40), Bool.true_and, h2]
    constructor
    ·rintro ⟨q1, q2⟩; exact ⟨q1, by omega⟩
    ·rintro ⟨q1, q2⟩; exact ⟨q1, by omega⟩
   ·rw [nodes]
    omega
mutual
theorem count_is : ∀ (y : S31) (deep c : Int), 0 ≤ deep → deep ≤ 100 → 0 ≤ c → c ≤ 400 → (countE y deep c).1 = (rightE y && (deepB y deep && decide (c + ((nodes y : Nat) : Int) ≤ 400))) ∧ ((countE y deep c).1 = true → (countE y deep c).2 = c + ((nodes y : Nat) : Int))
 | ⟨kind, n, kids⟩, deep, c, d0, d1, h0, h1 => by
  rw [countE, rightE, nodes, deepB, w64 (x := c + 1) (by omega) (by omega), w64 (x := deep + 1) (by omega) (by omega)]
  by_cases t1 : c + 1 > 400
  ·rw [decide_eq_true t1, Bool.true_or, if_pos rfl]
   have : ¬ (c + ((1 + nodess kids : Nat) : Int) ≤ 400) := by omega
   rw [decide_eq_false this]
   exact ⟨by simp, by simp⟩
  ·rw [decide_eq_false t1, Bool.false_or]
   by_cases t2 : deep > 40
   ·rw [decide_eq_true t2, Bool.true_or, if_pos rfl, decide_eq_false (by omega : ¬ deep ≤ 40)]
    exact ⟨by simp, by simp⟩
   ·rw [decide_eq_false t2, Bool.false_or, decide_eq_true (by omega : deep ≤ 40)]
    cases hm : ((kids.length : Int) == kidsM kind) with
    | false => exact ⟨by simp, by simp⟩
    | true =>
     cases hn : numB kind n with
     | false => exact ⟨by simp, by simp⟩
     | true =>
      have hc := counts_is kids (deep + 1) (c + 1) (by omega) (by omega) (by omega) (by omega)
      simp only [Bool.not_true, Bool.or_self, Bool.true_and, Bool.false_eq_true, if_false]
      rw [show c + ((1 + nodess kids : Nat) : Int) = c + 1 + ((nodess kids : Nat) : Int) by omega]
      exact hc
theorem counts_is : ∀ (l : List S31) (deep c : Int), 0 ≤ deep → deep ≤ 100 → 0 ≤ c → c ≤ 400 → (countEs l deep c).1 = (rightEs l && (deepBs l deep && decide (c + ((nodess l : Nat) : Int) ≤ 400))) ∧ ((countEs l deep c).1 = true → (countEs l deep c).2 = c + ((nodess l : Nat) : Int))
 | [], deep, c, d0, d1, h0, h1 => by
  rw [countEs, rightEs, nodess, deepBs, decide_eq_true (by omega)]
  exact ⟨rfl, fun _ => by simp⟩
 | x :: r, deep, c, d0, d1, h0, h1 => by
  have hx := count_is x deep c d0 d1 h0 h1
  rw [countEs, rightEs, nodess, deepBs]
  generalize countE x deep c = q at hx
  obtain ⟨q1, q2⟩ := q
  simp only at hx
  obtain ⟨e1, e2⟩ := hx
  cases q1 with
  | false =>
   refine ⟨?_, by simp⟩
   simp only
   cases hb : rightE x with
   | false => simp
   | true =>
    cases hd : deepB x deep with
    | false => simp
    | true =>
     rw [hb, hd, Bool.true_and, Bool.true_and] at e1
     have := of_decide_eq_false e1.symm
     rw [decide_eq_false (by omega)]
     simp
  | true =>
   have e3 := e2 rfl
   subst e3
   have e4 := Bool.and_eq_true_iff.1 e1.symm
   have e6 := Bool.and_eq_true_iff.1 e4.2
   have e5 := of_decide_eq_true e6.2
   have hr := counts_is r deep (c + ((nodes x : Nat) : Int)) d0 d1 (by omega) e5
   rw [e4.1, e6.1, Bool.true_and, Bool.true_and]
   rw [show c + ((nodes x + nodess r : Nat) : Int) = c + ((nodes x : Nat) : Int) + ((nodess r : Nat) : Int) by omega]
   exact hr
end
def exB (a b : Int) (l : List S31) : Bool := rightE ⟨a, b, l⟩ && (deepB ⟨a, b, l⟩ 1 && decide (((nodes ⟨a, b, l⟩ : Nat) : Int) ≤ 400))
theorem exOK_same (n : Nat) (a b : Int) (l : List S31) (h : HL n l) : Ev (fun k => spec_ExOK.f k a b l) (exB a b l) := by
 unfold exB
 obtain ⟨v, _, _, hv, e1, _⟩ := left_is n a b l h 1 (by omega) (by omega) 400 (by omega) (by omega)
 refine bnd hv ?_
 by_cases hs : v ≥ 0
 ·have := e1.1 hs
  rw [this.1, decide_eq_true this.2, Bool.and_true, Bool.and_true]
  exact ifp hs (sm _)
 ·cases hd : deepB ⟨a, b, l⟩ 1 with
  | false =>
   rw [Bool.false_and, Bool.and_false]
   exact ifn hs (sm _)
  | true =>
   rw [decide_eq_false (fun x => hs (e1.2 ⟨hd, x⟩)), Bool.and_false, Bool.and_false]
   exact ifn hs (sm _)
theorem isEx_is (a b : Int) (l : List S31) : impl_isEx.f a b l = some (exB a b l) := by
 unfold impl_isEx.f exB
 rw [(count_is ⟨a, b, l⟩ 1 0 (by omega) (by omega) (by omega) (by omega)).1]
 simp
def HX (x : S31) : Prop := ∃ n, HN n x
theorem HX_kids {x : S31} (h : HX x) : ∃ n, HL n x.f2 := by
 obtain ⟨n, h⟩ := h
 cases n with
 | zero => exact h.elim
 | succ n => exact ⟨n, h.2.2⟩
theorem HL_mem {n : Nat} {l : List S31} (h : HL n l) {x : S31} (hx : x ∈ l) : HX x := ⟨n, h.2 x hx⟩
def exX (x : S31) : Bool := exB x.f0 x.f1 x.f2
theorem okX {x : S31} (h : HX x) : Ev (fun k => spec_ExOK.f k x.f0 x.f1 x.f2) (exX x) := by
 obtain ⟨n, hn⟩ := HX_kids h
 exact exOK_same n x.f0 x.f1 x.f2 hn
theorem isX (x : S31) : impl_isEx.f x.f0 x.f1 x.f2 = some (exX x) := isEx_is x.f0 x.f1 x.f2
theorem szX_is (n : Nat) : ∀ l, WL n l → ∀ left : Int, 0 ≤ left → left ≤ 1048576 → ∃ v : Int, -1 ≤ v ∧ v ≤ 1048576 ∧ Ev (fun k => laws_szExS.f k l left) v ∧ (0 ≤ v → v = left - ((nL (l.map cv) : Nat) : Int)) := by
 induction n with
 | zero =>
  intro l h left h0 h1
  cases l with
  | cons x r => exact (h.2 x List.mem_cons_self).elim
  | nil =>
   refine ⟨left, by omega, h1, stp (fun k => laws_szExS.f.eq_2 ..) ?_, fun _ => by simp [nL]⟩
   rw [show wrap64 (left - (([] : List S24).length : Int)) = left by simp; exact w64 (by omega) (by omega)]
   exact ifn (by omega) (stp (fun k => laws_szExS.l0.eq_2 ..) (ifn (by simp) (sm _)))
 | succ n ih =>
  intro l h left h0 h1
  have hl : l.length * 40 ≤ 140737488351232 := h.1
  by_cases hs : left - (l.length : Int) < 0
  ·exact ⟨-1, by omega, by omega, stp (fun k => laws_szExS.f.eq_2 ..) (ifp (by rw [w64 (by omega) (by omega)]; exact hs) (sm _)), by omega⟩
  ·have key : ∀ (d i : Nat) (lf : Int), i + d = l.length → 0 ≤ lf → lf ≤ 1048576 → ∃ v : Int, -1 ≤ v ∧ v ≤ 1048576 ∧ Ev (fun k => laws_szExS.l0 k l lf (i : Int)) v ∧ (0 ≤ v → v = lf - (((nL ((l.drop i).map cv) : Nat) : Int) - (d : Int))) := by
    intro d
    induction d with
    | zero =>
     intro i lf hi hf0 hf1
     refine ⟨lf, by omega, hf1, stp (fun k => laws_szExS.l0.eq_2 ..) (ifn (by omega) (sm _)), fun _ => ?_⟩
     obtain rfl : i = l.length := by omega
     rw [List.drop_length, List.map_nil, nL]
     omega
    | succ d ihd =>
     intro i lf hi hf0 hf1
     have hil : i < l.length := by omega
     have hx : l[i]? = some l[i] := List.getElem?_eq_getElem hil
     have hw := h.2 l[i] (List.getElem_mem hil)
     obtain ⟨v, hv0, hv1, hv, hv2⟩ := ih l[i].f2 hw.2.2 lf hf0 hf1
     rw [List.drop_eq_getElem_cons hil, List.map_cons, nL, nT_eq, cv_2]
     by_cases hn : v < 0
     ·refine ⟨-1, by omega, by omega, stp (fun k => laws_szExS.l0.eq_2 ..) (ifp (by omega) (ifp (by omega) ?_)), by omega⟩
      rw [show rd_T24 l (i : Int) = l[i] from getD_some hx]
      exact bnd (a := -1) (bnd hv (ifp hn (sm _))) (ifp (by omega) (sm _))
     ·obtain ⟨u, hu0, hu1, hu, hu2⟩ := ihd (i + 1) v (by omega) (by omega) hv1
      rw [show ((i + 1 : Nat) : Int) = (i : Int) + 1 by omega] at hu
      refine ⟨u, hu0, hu1, stp (fun k => laws_szExS.l0.eq_2 ..) (ifp (by omega) (ifp (by omega) ?_)), fun hu3 => ?_⟩
      ·rw [show rd_T24 l (i : Int) = l[i] from getD_some hx, up (by omega) (by omega : (i : Int) < (l.length : Int)) (by omega)]
       exact bnd (a := v) (bnd hv (ifn hn (sm _))) (ifn hn hu)
      ·have := hu2 hu3
       have := hv2 (by omega)
       omega
   obtain ⟨v, hv0, hv1, hev, hv2⟩ := key l.length 0 (left - (l.length : Int)) (by omega) (by omega) (by omega)
   refine ⟨v, hv0, hv1, stp (fun k => laws_szExS.f.eq_2 ..) (ifn (by rw [w64 (by omega) (by omega)]; exact hs) ?_), fun h3 => ?_⟩
   ·rw [w64 (by omega) (by omega)]
    exact hev
   ·have := hv2 h3
    rw [List.drop_zero] at this
    omega
theorem markN_is (l : List Int) (k0 : Int) (h0 : 0 ≤ k0) (h1 : k0 + (l.length : Int) ≤ 1000000000000000000) : ∃ m : List Int, m.length = l.length ∧ (∀ j : Nat, j < m.length → rd m (j : Int) = k0 + (j : Int)) ∧ Ev (fun k => laws_markIntS.f k l k0) (k0 + (l.length : Int), m) := by
 have key : ∀ (d i : Nat) (x : List Int), i + d = l.length → x.length = l.length → (∀ j : Nat, j < i → rd x (j : Int) = k0 + (j : Int)) → ∃ m : List Int, m.length = l.length ∧ (∀ j : Nat, j < m.length → rd m (j : Int) = k0 + (j : Int)) ∧ Ev (fun k => laws_markIntS.l0 k x (k0 + (i : Int)) (i : Int)) (k0 + (l.length : Int), m) := by
  intro d
  induction d with
  | zero =>
   intro i x hi hx hj
   obtain rfl : i = l.length := by omega
   exact ⟨x, hx, by rw [hx]; exact hj, stp (fun k => laws_markIntS.l0.eq_2 ..) (ifn (by omega) (sm _))⟩
  | succ d ih =>
   intro i x hi hx hj
   obtain ⟨m, m1, m2, m3⟩ := ih (i + 1) (x.set i (k0 + (i : Int))) (by omega) (by simpa using hx) (by
    intro j hlt
    by_cases e : j = i
    ·subst e
     unfold rd
     simp [List.getD, show j < x.length by omega]
    ·have := hj j (by omega)
     unfold rd at this ⊢
     simp only [Int.toNat_natCast] at this ⊢
     rw [List.getD_eq_getElem?_getD, List.getElem?_set_ne (by omega), ← List.getD_eq_getElem?_getD]
     exact this)
   refine ⟨m, m1, m2, stp (fun k => laws_markIntS.l0.eq_2 ..) (ifp (by omega) (ifp (by omega) ?_))⟩
   rw [up (by omega) (by omega : (i : Int) < (l.length : Int)) (by omega), w64 (by omega) (by omega), Int.toNat_natCast]
   rw [show ((i + 1 : Nat) : Int) = (i : Int) + 1 by omega, ← Int.add_assoc] at m3
   exact m3
 obtain ⟨m, m1, m2, m3⟩ := key l.length 0 l (by omega) rfl (fun j hj => absurd hj (Nat.not_lt_zero _))
 refine ⟨m, m1, m2, evc (fun k => laws_markIntS.f.eq_1 ..) ?_⟩
 simpa using m3
theorem heldN_is (m : List Int) (k0 : Int) (h0 : 0 ≤ k0) (h1 : k0 + (m.length : Int) ≤ 1000000000000000000) (hm : ∀ j : Nat, j < m.length → rd m (j : Int) = k0 + (j : Int)) : Ev (fun k => laws_heldIntS.f k m k0) (k0 + (m.length : Int)) := by
 have key : ∀ (d i : Nat), i + d = m.length → Ev (fun k => laws_heldIntS.l0 k m (k0 + (i : Int)) (i : Int)) (k0 + (m.length : Int)) := by
  intro d
  induction d with
  | zero =>
   intro i hi
   obtain rfl : i = m.length := by omega
   exact stp (fun k => laws_heldIntS.l0.eq_2 ..) (ifn (by omega) (sm _))
  | succ d ih =>
   intro i hi
   have := ih (i + 1) (by omega)
   rw [show ((i + 1 : Nat) : Int) = (i : Int) + 1 by omega, ← Int.add_assoc] at this
   refine stp (fun k => laws_heldIntS.l0.eq_2 ..) (ifp (by omega) (ifp (by omega) (ifp (hm i (by omega)) ?_)))
   rw [up (by omega) (by omega : (i : Int) < (m.length : Int)) (by omega), w64 (x := k0 + (i : Int) + 1) (by omega) (by omega)]
   exact this
 have := key m.length 0 (by omega)
 refine evc (fun k => laws_heldIntS.f.eq_1 ..) ?_
 simpa using this
theorem eqI_self (l : List Int) (hl : l.length ≤ 140737488351232) : Ev (fun k => laws_eqIntS.f k l l) true := by
 refine evc (fun k => laws_eqIntS.f.eq_1 ..) (ifp rfl ?_)
 refine same l (fun i k => laws_eqIntS.l0 k l l i) ?_ ?_
 ·exact stp (fun k => laws_eqIntS.l0.eq_2 ..) (ifn (by omega) (sm _))
 ·intro i x hx hk
  have hi : i < l.length := (List.getElem?_eq_some_iff.1 hx).1
  refine stp (fun k => laws_eqIntS.l0.eq_2 ..) (ifp (by omega) (ifp (by omega) (ifp (by omega) (ifp rfl ?_))))
  rw [up (by omega) (by omega : (i : Int) < (l.length : Int)) (by omega)]
  exact hk
theorem eqGates_self (l : List S114) (hl : l.length ≤ 140737488351232) : Ev (fun k => laws_eqGateS.f k l l) true := by
 refine evc (fun k => laws_eqGateS.f.eq_1 ..) (ifp rfl ?_)
 refine same l (fun i k => laws_eqGateS.l0 k l l i) ?_ ?_
 ·exact stp (fun k => laws_eqGateS.l0.eq_2 ..) (ifn (by omega) (sm _))
 ·intro i x hx hk
  have hi : i < l.length := (List.getElem?_eq_some_iff.1 hx).1
  refine stp (fun k => laws_eqGateS.l0.eq_2 ..) (ifp (by omega) (ifp (by omega) (ifp (by omega) ?_)))
  rw [up (by omega) (by omega : (i : Int) < (l.length : Int)) (by omega)]
  have eqg : ∀ a b : Int, laws_eqGate.f a b a b = some true := fun a b => by unfold laws_eqGate.f; rw [if_pos rfl, if_pos rfl]
  exact bnd0 (eqg _ _) (ifp rfl hk)
theorem eqAig_self (a : Int) (l : List S114) (hl : l.length ≤ 140737488351232) : Ev (fun k => laws_eqAig.f k a l a l) true :=
 evc (fun k => laws_eqAig.f.eq_1 ..) (ifp rfl (bnd (eqGates_self l hl) (ifp rfl (sm _))))
theorem gatesHeld : ∀ (d kk : Nat) (ys : List S114) (b : Int), kk + d = ys.length → ys.length ≤ 10000000000000 → 0 ≤ b → b + 2 * (d : Int) ≤ 100000000000000000 → ∃ M : List S114, Ev (fun k => laws_markGateS.l0 k ys b (kk : Int)) (b + 2 * (d : Int), M) ∧ M.length = ys.length ∧ (∀ j : Nat, j < kk → M[j]? = ys[j]?) ∧ Ev (fun k => laws_heldGateS.l0 k M b (kk : Int)) (b + 2 * (d : Int)) := by
 intro d
 induction d with
 | zero =>
  intro kk ys b hk hm h0 h1
  obtain rfl : kk = ys.length := by omega
  refine ⟨ys, ?_, rfl, fun _ _ => rfl, ?_⟩
  ·rw [show b + 2 * ((0 : Nat) : Int) = b by omega]
   exact stp (fun k => laws_markGateS.l0.eq_2 ..) (ifn (by omega) (sm _))
  ·rw [show b + 2 * ((0 : Nat) : Int) = b by omega]
   exact stp (fun k => laws_heldGateS.l0.eq_2 ..) (ifn (by omega) (sm _))
 | succ d ih =>
  intro kk ys b hk hm h0 h1
  have hlt : kk < ys.length := by omega
  obtain ⟨M, f1, f2, f3, f4⟩ := ih (kk + 1) (ys.set kk ⟨b, b + 1⟩) (b + 2) (by rw [List.length_set]; omega) (by rw [List.length_set]; exact hm) (by omega) (by omega)
  rw [List.length_set] at f2
  have hMk : M[kk]? = some ⟨b, b + 1⟩ := by rw [f3 kk (by omega), List.getElem?_set_self hlt]
  have hs : b + 2 * ((d + 1 : Nat) : Int) = b + 2 + 2 * (d : Int) := by omega
  have hw1 : wrap64 (b + 1) = b + 1 := w64 (by omega) (by omega)
  have hw2 : wrap64 (b + 1 + 1) = b + 2 := by rw [w64 (by omega) (by omega)]; omega
  have hwk : wrap64 ((kk : Int) + 1) = ((kk + 1 : Nat) : Int) := by rw [w64 (by omega) (by omega)]; omega
  rw [hs]
  refine ⟨M, ?_, f2, fun j hj => by rw [f3 j (by omega), List.getElem?_set_ne (by omega)], ?_⟩
  ·refine stp (fun k => laws_markGateS.l0.eq_2 ..) (ifp (by omega) (ifp (by omega) (bnd0 rfl ?_)))
   have hg : rd_T114 (ys.set ((kk : Int)).toNat ⟨b, (rd_T114 ys (kk : Int)).f1⟩) (kk : Int) = ⟨b, (rd_T114 ys (kk : Int)).f1⟩ := by
    rw [Int.toNat_natCast]
    exact getD_some (List.getElem?_set_self hlt)
   rw [hg, hw1, hw2, hwk, List.set_set, Int.toNat_natCast]
   exact f1
  ·refine stp (fun k => laws_heldGateS.l0.eq_2 ..) (ifp (by omega) (ifp (by omega) ?_))
   rw [show rd_T114 M (kk : Int) = ⟨b, b + 1⟩ from getD_some hMk, hw1, hw2, hwk]
   exact ifp rfl (ifp rfl f4)
theorem bx_tab : (List.range 4096).all (fun i => Go.bits .xor .i64 (i : Int) 1 == (if (i : Int) % 2 = 1 then (i : Int) - 1 else (i : Int) + 1)) = true := by kernel_rfl
theorem bx_is {y : Int} (h0 : 0 ≤ y) (h1 : y < 4096) : bx y = if y % 2 = 1 then y - 1 else y + 1 := by
 have := List.all_eq_true.1 bx_tab y.toNat (List.mem_range.2 (by omega))
 have h2 : ((y.toNat : Nat) : Int) = y := by omega
 rw [h2] at this
 exact eq_of_beq this
theorem not_is {y : Int} (h0 : 0 ≤ y) (h1 : y < 4096) : notS y = bx y := by
 rw [bx_is h0 h1]
 unfold notS
 have : Int.tmod y 2 = y % 2 := by rw [Int.tmod_eq_emod_of_nonneg h0]
 rw [this]
 split
 ·rw [w64 (by omega) (by omega)]
 ·rw [w64 (by omega) (by omega)]
theorem bx_rg {y : Int} (h0 : 0 ≤ y) (h1 : y < 4096) : 0 ≤ bx y ∧ bx y ≤ y + 1 ∧ (∀ B : Int, B % 2 = 1 → y ≤ B → bx y ≤ B) := by
 rw [bx_is h0 h1]
 split
 ·exact ⟨by omega, by omega, fun B h2 h3 => by omega⟩
 ·exact ⟨by omega, by omega, fun B h2 h3 => by omega⟩
def ixG (a c : Int) (gs : List S114) (i : Nat) : Int := match findG a c gs i with
 | some j => (j : Int)
 | none => -1
theorem find_rg {a c : Int} : ∀ (gs : List S114) (i j : Nat), findG a c gs i = some j → i ≤ j ∧ j < i + gs.length
 | [], i, j, h => by cases h
 | x :: r, i, j, h => by
  rw [findG] at h
  split at h
  ·cases h
   simp
  ·have := find_rg r (i + 1) j h
   simp only [List.length_cons]
   omega
theorem gate_is (gs : List S114) (a c : Int) (hl : gs.length ≤ 100000) : Ev (fun k => impl_Gate.f k gs a c) (ixG a c gs 0) := by
 have key : ∀ (d i : Nat), i + d = gs.length → Ev (fun k => impl_Gate.l0 k gs (gs.length : Int) (i : Int) a c) (ixG a c (gs.drop i) i) := by
  intro d
  induction d with
  | zero =>
   intro i hi
   obtain rfl : i = gs.length := by omega
   rw [List.drop_length]
   exact stp (fun k => impl_Gate.l0.eq_2 ..) (ifn (by omega) (sm _))
  | succ d ih =>
   intro i hi
   have hlt : i < gs.length := by omega
   have hw : wrap64 ((i : Int) + 1) = ((i + 1 : Nat) : Int) := by rw [w64 (by omega) (by omega)]; omega
   have hr : rd_T114 gs (i : Int) = gs[i] := getD_some (List.getElem?_eq_getElem hlt)
   have h9 := ih (i + 1) (by omega)
   refine stp (fun k => impl_Gate.l0.eq_2 ..) (ifp (by omega) (ifp (by omega) (ifp (by omega) ?_)))
   rw [hr, hw]
   unfold ixG
   rw [List.drop_eq_getElem_cons hlt, findG]
   have hb : (a == gs[i].f0 && c == gs[i].f1) = (gs[i].f0 == a && gs[i].f1 == c) := by
    rw [Bool.eq_iff_iff]
    simp only [Bool.and_eq_true, beq_iff_eq]
    exact ⟨fun h => ⟨h.1.symm, h.2.symm⟩, fun h => ⟨h.1.symm, h.2.symm⟩⟩
   rw [← hb]
   by_cases hc : (a == gs[i].f0 && c == gs[i].f1) = true
   ·rw [if_pos hc]
    exact ifp hc (sm _)
   ·rw [if_neg hc]
    exact ifn hc h9
 have := key gs.length 0 (by omega)
 rw [List.drop_zero] at this
 exact this
def LB (gs : List S114) : Int := 2 * (gs.length : Int) + 27
theorem and_is (n x y : Int) (gs : List S114) (hn0 : 0 ≤ n) (hn1 : n ≤ 12) (hl : gs.length ≤ 1800) (hx : 0 ≤ x ∧ x ≤ LB gs) (hy : 0 ≤ y ∧ y ≤ LB gs) :
  ∃ r gs', Ev (fun k => andI k n x y gs) (r, gs') ∧ andS n x y gs = some (r, gs') ∧ (0 ≤ r ∧ r ≤ LB gs') ∧ gs.length ≤ gs'.length ∧ gs'.length ≤ gs.length + 1 := by
 unfold LB at hx hy
 obtain ⟨a, ha⟩ : ∃ a, lo2 x y = a := ⟨_, rfl⟩
 obtain ⟨c, hc⟩ : ∃ c, hi2 x y = c := ⟨_, rfl⟩
 have hac : a ≤ c ∧ 0 ≤ a ∧ c ≤ 2 * (gs.length : Int) + 27 := by
  rw [← ha, ← hc]
  unfold lo2 hi2
  split <;> split <;> omega
 have hbx := bx_is (y := c) (by omega) (by omega)
 unfold andI andS
 rw [ha, hc]
 have hd1 : Int.tdiv a 2 = a / 2 := Int.tdiv_eq_ediv_of_nonneg (by omega)
 have hd2 : Int.tdiv c 2 = c / 2 := Int.tdiv_eq_ediv_of_nonneg (by omega)
 have hwd1 : wrap64 (a / 2) = a / 2 := w64 (by omega) (by omega)
 have hwd2 : wrap64 (c / 2) = c / 2 := w64 (by omega) (by omega)
 rw [hd1, hd2, hwd1, hwd2]
 have hself : ∀ r : Int, 0 ≤ r → r ≤ 2 * (gs.length : Int) + 27 → (0 ≤ r ∧ r ≤ LB gs) ∧ gs.length ≤ gs.length ∧ gs.length ≤ gs.length + 1 := fun r h0 h1 => ⟨⟨h0, h1⟩, Nat.le_refl _, Nat.le_succ _⟩
 by_cases h0 : a = 0
 ·exact ⟨0, gs, ifp h0 (sm _), if_pos h0, hself 0 (by omega) (by omega)⟩
 rw [if_neg h0]
 by_cases h1 : a = 1
 ·have hb : ¬ a = bx c := by rw [hbx]; split <;> omega
  exact ⟨c, gs, ifn h0 (ifn hb (ifp h1 (sm _))), by rw [if_pos h1], hself c (by omega) (by omega)⟩
 rw [if_neg h1]
 by_cases h2 : a = c
 ·have hb : ¬ a = bx c := by rw [hbx]; split <;> omega
  exact ⟨c, gs, ifn h0 (ifn hb (ifn h1 (ifp h2 (sm _)))), by rw [if_pos h2], hself c (by omega) (by omega)⟩
 rw [if_neg h2]
 by_cases h3 : a / 2 = c / 2
 ·have hb : a = bx c := by rw [hbx]; split <;> omega
  exact ⟨0, gs, ifn h0 (ifp hb (sm _)), by rw [if_pos h3], hself 0 (by omega) (by omega)⟩
 rw [if_neg h3]
 have hb : ¬ a = bx c := by rw [hbx]; split <;> omega
 have hg := gate_is gs a c (by omega)
 unfold ixG at hg
 have hrg := find_rg (a := a) (c := c) gs 0
 cases hf : findG a c gs 0 with
 | some j =>
  rw [hf] at hg
  simp only at hg ⊢
  have hj := (hrg j hf).2
  have e1 : wrap64 (2 * wrap64 (wrap64 (1 + n) + (j : Int))) = 2 * (1 + n + (j : Int)) := by
   rw [w64 (x := 1 + n) (by omega) (by omega), w64 (x := 1 + n + (j : Int)) (by omega) (by omega), w64 (by omega) (by omega)]
  have e2 : wrap64 (2 * wrap64 (wrap64 (n + 1) + (j : Int))) = 2 * (1 + n + (j : Int)) := by
   rw [w64 (x := n + 1) (by omega) (by omega), w64 (x := n + 1 + (j : Int)) (by omega) (by omega), w64 (by omega) (by omega)]
   omega
  refine ⟨2 * (1 + n + (j : Int)), gs, ifn h0 (ifn hb (ifn h1 (ifn h2 (bnd hg (ifn (by omega) ?_))))), by rw [e2], hself _ (by omega) (by omega)⟩
  rw [e1]
  exact sm _
 | none =>
  rw [hf] at hg
  simp only at hg ⊢
  have e1 : wrap64 (2 * wrap64 (wrap64 (1 + n) + (gs.length : Int))) = 2 * (1 + n + (gs.length : Int)) := by
   rw [w64 (x := 1 + n) (by omega) (by omega), w64 (x := 1 + n + (gs.length : Int)) (by omega) (by omega), w64 (by omega) (by omega)]
  have e2 : wrap64 (2 * wrap64 (n + ((gs.length + 1 : Nat) : Int))) = 2 * (1 + n + (gs.length : Int)) := by
   rw [w64 (x := n + ((gs.length + 1 : Nat) : Int)) (by omega) (by omega), w64 (by omega) (by omega)]
   omega
  refine ⟨2 * (1 + n + (gs.length : Int)), gs ++ [⟨a, c⟩], ifn h0 (ifn hb (ifn h1 (ifn h2 (bnd hg (ifp (by decide) (ifp (by omega) ?_)))))), by rw [if_pos (by omega), e2], ⟨by omega, ?_⟩, by simp, by simp⟩
  ·rw [e1]
   exact sm _
  ·unfold LB
   rw [List.length_append, List.length_singleton]
   omega
theorem or_is (n x y : Int) (gs : List S114) (hn0 : 0 ≤ n) (hn1 : n ≤ 12) (hl : gs.length ≤ 1800) (hx : 0 ≤ x ∧ x ≤ LB gs) (hy : 0 ≤ y ∧ y ≤ LB gs) :
  ∃ r gs', Ev (fun k => orI k n x y gs) (r, gs') ∧ orS n x y gs = some (r, gs') ∧ (0 ≤ r ∧ r ≤ LB gs') ∧ gs.length ≤ gs'.length ∧ gs'.length ≤ gs.length + 1 := by
 have hB : LB gs ≤ 3627 := by unfold LB; omega
 have hodd : ∀ g : List S114, LB g % 2 = 1 := fun g => by unfold LB; omega
 have x1 := bx_rg hx.1 (by omega)
 have y1 := bx_rg hy.1 (by omega)
 obtain ⟨r, gs', e1, e2, e3, e4, e5⟩ := and_is n (bx x) (bx y) gs hn0 hn1 hl ⟨x1.1, x1.2.2 _ (hodd gs) hx.2⟩ ⟨y1.1, y1.2.2 _ (hodd gs) hy.2⟩
 have hB2 : LB gs' ≤ 3629 := by unfold LB at hB ⊢; omega
 have r1 := bx_rg e3.1 (by omega)
 refine ⟨bx r, gs', evc (fun k => orI.eq_1 ..) (bnd e1 (sm _)), ?_, ⟨r1.1, r1.2.2 _ (hodd gs') e3.2⟩, e4, e5⟩
 unfold orS
 rw [not_is hx.1 (by omega), not_is hy.1 (by omega), e2, Option.bind_some, not_is e3.1 (by omega)]
theorem most_loop2 (a b : Int) (l : List S31) (hl : l.length * 40 ≤ 140737488351232) (ih : ∀ x ∈ l, ∃ m, Ev (fun k => spec_l04Most.f k x.f0 x.f1 x.f2) m ∧ Ev (fun k => impl_mostVar.f k x.f0 x.f1 x.f2) m) : ∀ (d i : Nat) (s : Int), i + d = l.length → ∃ m, Ev (fun k => spec_l04Most.l0 k s (i : Int) a b l) m ∧ Ev (fun k => impl_mostVar.l0 k s l (l.length : Int) (i : Int)) m := by
 intro d
 induction d with
 | zero =>
  intro i s hi
  obtain rfl : i = l.length := by omega
  exact ⟨s, stp (fun k => spec_l04Most.l0.eq_2 ..) (ifn (by omega) (sm _)), stp (fun k => impl_mostVar.l0.eq_2 ..) (ifn (by omega) (sm _))⟩
 | succ d ihd =>
  intro i s hi
  have hil : i < l.length := by omega
  have hx : l[i]? = some l[i] := List.getElem?_eq_getElem hil
  obtain ⟨m, h1, h2⟩ := ih l[i] (List.getElem_mem hil)
  obtain ⟨u, u1, u2⟩ := ihd (i + 1) (mx s m) (by omega)
  rw [show ((i + 1 : Nat) : Int) = (i : Int) + 1 by omega] at u1 u2
  refine ⟨u, stp (fun k => spec_l04Most.l0.eq_2 ..) (ifp (by omega) (ifp (by omega) ?_)), stp (fun k => impl_mostVar.l0.eq_2 ..) (ifp (by omega) (ifp (by omega) (ifp (by omega) ?_)))⟩
  ·rw [show rd_T31 l (i : Int) = l[i] from getD_some hx, up (by omega) (by omega : (i : Int) < (l.length : Int)) (by omega)]
   exact bnd h1 u1
  ·rw [show rd_T31 l (i : Int) = l[i] from getD_some hx, up (by omega) (by omega : (i : Int) < (l.length : Int)) (by omega)]
   exact bnd h2 u2
theorem right_parts {a b : Int} {l : List S31} (h : rightE ⟨a, b, l⟩ = true) : (l.length : Int) = kidsM a ∧ numB a b = true ∧ ∀ x ∈ l, rightE x = true := by
 rw [rightE, Bool.and_eq_true, Bool.and_eq_true, beq_iff_eq] at h
 refine ⟨h.1, h.2.1, fun x hx => ?_⟩
 have h3 := h.2.2
 rw [rightEs_all] at h3
 exact List.all_eq_true.1 h3 x hx
theorem most_step (a b : Int) (l : List S31) (hl : l.length * 40 ≤ 140737488351232) (hr : rightE ⟨a, b, l⟩ = true) (ih : ∀ x ∈ l, ∃ m, Ev (fun k => spec_l04Most.f k x.f0 x.f1 x.f2) m ∧ Ev (fun k => impl_mostVar.f k x.f0 x.f1 x.f2) m) : ∃ m, Ev (fun k => spec_l04Most.f k a b l) m ∧ Ev (fun k => impl_mostVar.f k a b l) m := by
 by_cases h1 : a = 1
 ·have h2 := (right_parts hr).1
  rw [h1] at h2
  have h3 : l = [] := List.length_eq_zero_iff.1 (by have : kidsM 1 = 0 := rfl; omega)
  subst h3
  exact ⟨b, stp (fun k => spec_l04Most.f.eq_2 ..) (ifp h1 (sm _)), stp (fun k => impl_mostVar.f.eq_2 ..) (ifp h1 (stp (fun k => impl_mostVar.j0.eq_2 ..) (stp (fun k => impl_mostVar.l0.eq_2 ..) (ifn (by decide) (sm _)))))⟩
 ·obtain ⟨m, m1, m2⟩ := most_loop2 a b l hl ih l.length 0 (-1) (by omega)
  exact ⟨m, stp (fun k => spec_l04Most.f.eq_2 ..) (ifn h1 m1), stp (fun k => impl_mostVar.f.eq_2 ..) (ifn h1 (stp (fun k => impl_mostVar.j0.eq_2 ..) m2))⟩
theorem most_is : ∀ (n : Nat) (a b : Int) (l : List S31), HL n l → rightE ⟨a, b, l⟩ = true → ∃ m, Ev (fun k => spec_l04Most.f k a b l) m ∧ Ev (fun k => impl_mostVar.f k a b l) m := by
 intro n
 induction n with
 | zero => exact fun a b l h hr => most_step a b l h.1 hr (fun x hx => (h.2 x hx).elim)
 | succ n ih =>
  intro a b l h hr
  refine most_step a b l h.1 hr (fun x hx => ?_)
  have hx2 := h.2 x hx
  have hr2 := (right_parts hr).2.2 x hx
  rw [← eta x] at hr2
  exact ih x.f0 x.f1 x.f2 hx2.2.2 hr2
theorem LB_mono {g g' : List S114} (h : g.length ≤ g'.length) : LB g ≤ LB g' := by unfold LB; omega
def KF (i : Nat) (vs : List Int) (kf : Nat → Int) : Nat → Int := fun j => if i ≤ j ∧ j < i + vs.length then vs.getD (j - i) 0 else kf j
def Same (n : Int) (f : Nat) : Prop := ∀ (x : S31) (gs : List S114), rightE x = true → deepB x (42 - (f : Int)) = true → gs.length + 3 * nodes x ≤ 1700 → ∃ r gs', Ev (fun k => bldI k n f x.f0 x.f1 x.f2 gs) (r, gs') ∧ mkS n f x.f0 x.f1 x.f2 gs = some (r, gs') ∧ (0 ≤ r ∧ r ≤ LB gs') ∧ gs.length ≤ gs'.length ∧ gs'.length ≤ gs.length + 3 * nodes x
theorem kids_is {n : Int} {f : Nat} (hS : Same n f) : ∀ (l : List S31) (i : Nat) (kf : Nat → Int) (ks : List Int) (gs : List S114), (∀ x ∈ l, rightE x = true) → deepBs l (42 - (f : Int)) = true → gs.length + 3 * nodess l ≤ 1700 → ks.length + l.length ≤ 1000 →
  ∃ (vs : List Int) (gs' : List S114), vs.length = l.length ∧ Ev (fun k => kidI (bldI k n f) l i kf gs) (KF i vs kf, gs') ∧ kidS (mkS n f) l ks gs = some (ks ++ vs, gs') ∧ (∀ v ∈ vs, 0 ≤ v ∧ v ≤ LB gs') ∧ gs.length ≤ gs'.length ∧ gs'.length ≤ gs.length + 3 * nodess l
 | [], i, kf, ks, gs, _, _, _, _ => by
  refine ⟨[], gs, rfl, ?_, by rw [kidS, List.append_nil], fun v hv => by (cases hv), Nat.le_refl _, Nat.le_add_right _ _⟩
  have : KF i [] kf = kf := by
   funext j
   unfold KF
   rw [if_neg (by simp only [List.length_nil]; omega)]
  rw [this]
  exact sm _
 | x :: r, i, kf, ks, gs, hr, hd, hg, hk => by
  rw [deepBs, Bool.and_eq_true] at hd
  rw [nodess] at hg
  rw [List.length_cons] at hk
  obtain ⟨v, g1, e1, e2, e3, e4, e5⟩ := hS x gs (hr x List.mem_cons_self) hd.1 (by omega)
  obtain ⟨vs, g2, f0, f1, f2, f3, f4, f5⟩ := kids_is hS r (i + 1) (fun j => if j = i then v else kf j) (ks ++ [v]) g1 (fun y hy => hr y (List.mem_cons_of_mem _ hy)) hd.2 (by omega) (by rw [List.length_append, List.length_singleton]; omega)
  refine ⟨v :: vs, g2, by rw [List.length_cons, List.length_cons, f0], ?_, ?_, fun u hu => ?_, by omega, by rw [nodess]; omega⟩
  ·have hkf : KF i (v :: vs) kf = KF (i + 1) vs (fun j => if j = i then v else kf j) := by
    funext j
    unfold KF
    rw [List.length_cons]
    by_cases h1 : j = i
    ·subst h1
     rw [if_pos (by omega), if_neg (by omega), Nat.sub_self]
     exact (if_pos rfl).symm
    ·by_cases h2 : i + 1 ≤ j ∧ j < i + 1 + vs.length
     ·rw [if_pos (by omega), if_pos h2, show j - i = (j - (i + 1)) + 1 by omega]
      rfl
     ·rw [if_neg (by omega), if_neg h2]
      exact (if_neg h1).symm
   rw [hkf]
   exact bnd e1 f1
  ·rw [kidS, if_pos (by omega), e2, Option.bind_some]
   simp only
   rw [f2, List.append_assoc]
   rfl
  ·rcases List.mem_cons.1 hu with rfl | hu
   ·exact ⟨e3.1, Int.le_trans e3.2 (LB_mono f4)⟩
   ·exact f3 u hu
theorem end_is (n kind num : Int) (vs : List Int) (gs : List S114) (hn0 : 0 ≤ n) (hn1 : n ≤ 12) (hk : (vs.length : Int) = kidsM kind) (hnum : numB kind num = true) (hv : ∀ v ∈ vs, 0 ≤ v ∧ v ≤ LB gs) (hg : gs.length ≤ 1790) :
  ∃ r gs', Ev (fun k => endI k n kind num (KF 0 vs (fun _ => 0)) gs) (r, gs') ∧ (if kind = 1 then some (wrap64 (2 * wrap64 (num + 1)), gs) else if kind = 2 then some (num, gs) else endS n kind vs gs) = some (r, gs') ∧ (0 ≤ r ∧ r ≤ LB gs') ∧ gs.length ≤ gs'.length ∧ gs'.length ≤ gs.length + 3 := by
 have hK : ∀ j : Nat, j < vs.length → KF 0 vs (fun _ => 0) j = vs.getD j 0 := fun j hj => by
  unfold KF
  rw [if_pos (by omega), Nat.sub_zero]
 have hV : ∀ j : Nat, j < vs.length → 0 ≤ vs.getD j 0 ∧ vs.getD j 0 ≤ LB gs := fun j hj => by
  rw [List.getD_eq_getElem?_getD, List.getElem?_eq_getElem hj]
  exact hv _ (List.getElem_mem hj)
 have hB : LB gs ≤ 3607 := by unfold LB; omega
 have hodd : ∀ g : List S114, LB g % 2 = 1 := fun g => by unfold LB; omega
 have hLB : 27 ≤ LB gs := by unfold LB; omega
 by_cases h1 : kind = 1
 ·subst h1
  have hnn : 0 ≤ num ∧ num ≤ 11 := by
   have h9 : (decide (0 ≤ num) && decide (num ≤ 11)) = true := hnum
   rw [Bool.and_eq_true, decide_eq_true_eq, decide_eq_true_eq] at h9
   exact h9
  have e1 : wrap64 (wrap64 (2 * num) + 2) = 2 * num + 2 := by rw [w64 (x := 2 * num) (by omega) (by omega), w64 (by omega) (by omega)]
  have e2 : wrap64 (2 * wrap64 (num + 1)) = 2 * num + 2 := by
   rw [w64 (x := num + 1) (by omega) (by omega), w64 (by omega) (by omega)]
   omega
  refine ⟨2 * num + 2, gs, evc (fun k => endI.eq_1 ..) (ifp rfl ?_), by rw [if_pos rfl, e2], by omega, Nat.le_refl _, by omega⟩
  rw [e1]
  exact sm _
 rw [if_neg h1]
 by_cases h2 : kind = 2
 ·subst h2
  have hnn : 0 ≤ num ∧ num ≤ 1 := by
   have h9 : (decide (0 ≤ num) && decide (num ≤ 1)) = true := hnum
   rw [Bool.and_eq_true, decide_eq_true_eq, decide_eq_true_eq] at h9
   exact h9
  exact ⟨num, gs, evc (fun k => endI.eq_1 ..) (ifn (by decide) (ifp rfl (sm _))), by rw [if_pos rfl], by omega, Nat.le_refl _, by omega⟩
 rw [if_neg h2]
 by_cases h3 : kind = 3
 ·subst h3
  have hl : vs.length = 1 := by have : kidsM 3 = 1 := rfl; omega
  have v0 := hV 0 (by omega)
  have b0 := bx_rg v0.1 (by omega)
  refine ⟨bx (vs.getD 0 0), gs, evc (fun k => endI.eq_1 ..) (ifn (by decide) (ifn (by decide) (ifp rfl ?_))), ?_, ⟨b0.1, b0.2.2 _ (hodd gs) v0.2⟩, Nat.le_refl _, by omega⟩
  ·rw [hK 0 (by omega)]
   exact sm _
  ·unfold endS
   rw [if_pos rfl, if_pos (by omega), not_is v0.1 (by omega)]
 by_cases h4 : kind = 4
 ·subst h4
  have hl : vs.length = 2 := by have : kidsM 4 = 2 := rfl; omega
  obtain ⟨r, g1, e1, e2, e3, e4, e5⟩ := and_is n (vs.getD 0 0) (vs.getD 1 0) gs hn0 hn1 (by omega) (hV 0 (by omega)) (hV 1 (by omega))
  refine ⟨r, g1, evc (fun k => endI.eq_1 ..) (ifn (by decide) (ifn (by decide) (ifn (by decide) (ifp rfl ?_)))), ?_, e3, e4, by omega⟩
  ·rw [hK 0 (by omega), hK 1 (by omega)]
   exact e1
  ·unfold endS
   rw [if_neg (by decide), if_pos rfl, if_pos (by omega), e2]
 by_cases h5 : kind = 5
 ·subst h5
  have hl : vs.length = 2 := by have : kidsM 5 = 2 := rfl; omega
  obtain ⟨r, g1, e1, e2, e3, e4, e5⟩ := or_is n (vs.getD 0 0) (vs.getD 1 0) gs hn0 hn1 (by omega) (hV 0 (by omega)) (hV 1 (by omega))
  refine ⟨r, g1, evc (fun k => endI.eq_1 ..) (ifn (by decide) (ifn (by decide) (ifn (by decide) (ifn (by decide) (ifp rfl ?_))))), ?_, e3, e4, by omega⟩
  ·rw [hK 0 (by omega), hK 1 (by omega)]
   exact e1
  ·unfold endS
   rw [if_neg (by decide), if_neg (by decide), if_pos rfl, if_pos (by omega), e2]
 have three : ∀ x y z u : Int, (0 ≤ x ∧ x ≤ LB gs) → (0 ≤ y ∧ y ≤ LB gs) → (0 ≤ z ∧ z ≤ LB gs) → (0 ≤ u ∧ u ≤ LB gs) → ∃ r gs', Ev (fun k => (andI k n x y gs).bind fun p => (andI k n z u p.2).bind fun q => orI k n p.1 q.1 q.2) (r, gs') ∧ ((andS n x y gs).bind fun p => (andS n z u p.2).bind fun q => orS n p.1 q.1 q.2) = some (r, gs') ∧ (0 ≤ r ∧ r ≤ LB gs') ∧ gs.length ≤ gs'.length ∧ gs'.length ≤ gs.length + 3 := fun x y z u hx hy hz hu => by
  obtain ⟨r1, g1, a1, a2, a3, a4, a5⟩ := and_is n x y gs hn0 hn1 (by omega) hx hy
  have m1 := LB_mono a4
  obtain ⟨r2, g2, b1, b2, b3, b4, b5⟩ := and_is n z u g1 hn0 hn1 (by omega) ⟨hz.1, by omega⟩ ⟨hu.1, by omega⟩
  have m2 := LB_mono b4
  obtain ⟨r3, g3, c1, c2, c3, c4, c5⟩ := or_is n r1 r2 g2 hn0 hn1 (by omega) ⟨a3.1, by omega⟩ b3
  refine ⟨r3, g3, bnd a1 (bnd b1 c1), ?_, c3, by omega, by omega⟩
  rw [a2, Option.bind_some]
  simp only
  rw [b2, Option.bind_some]
  exact c2
 by_cases h6 : kind = 6
 ·subst h6
  have hl : vs.length = 2 := by have : kidsM 6 = 2 := rfl; omega
  have v0 := hV 0 (by omega)
  have v1 := hV 1 (by omega)
  have b0 := bx_rg v0.1 (by omega)
  have b1 := bx_rg v1.1 (by omega)
  obtain ⟨r, g1, e1, e2, e3, e4, e5⟩ := three (vs.getD 0 0) (bx (vs.getD 1 0)) (bx (vs.getD 0 0)) (vs.getD 1 0) v0 ⟨b1.1, b1.2.2 _ (hodd gs) v1.2⟩ ⟨b0.1, b0.2.2 _ (hodd gs) v0.2⟩ v1
  refine ⟨r, g1, evc (fun k => endI.eq_1 ..) (ifn (by decide) (ifn (by decide) (ifn (by decide) (ifn (by decide) (ifn (by decide) (ifp rfl ?_)))))), ?_, e3, e4, by omega⟩
  ·rw [hK 0 (by omega), hK 1 (by omega)]
   exact e1
  ·unfold endS
   rw [if_neg (by decide), if_neg (by decide), if_neg (by decide), if_pos rfl, if_pos (by omega), not_is v0.1 (by omega), not_is v1.1 (by omega)]
   exact e2
 ·have hl : vs.length = 3 := by
   unfold kidsM at hk
   rw [if_neg h1, if_neg h2, if_neg h3, if_neg h4, if_neg h5, if_neg h6] at hk
   split at hk
   ·omega
   ·omega
  have v0 := hV 0 (by omega)
  have v1 := hV 1 (by omega)
  have v2 := hV 2 (by omega)
  have b0 := bx_rg v0.1 (by omega)
  obtain ⟨r, g1, e1, e2, e3, e4, e5⟩ := three (vs.getD 0 0) (vs.getD 1 0) (bx (vs.getD 0 0)) (vs.getD 2 0) v0 v1 ⟨b0.1, b0.2.2 _ (hodd gs) v0.2⟩ v2
  refine ⟨r, g1, evc (fun k => endI.eq_1 ..) (ifn h1 (ifn h2 (ifn h3 (ifn h4 (ifn h5 (ifn h6 ?_)))))), ?_, e3, e4, by omega⟩
  ·rw [hK 0 (by omega), hK 1 (by omega), hK 2 (by omega)]
   exact e1
  ·unfold endS
   rw [if_neg h3, if_neg h4, if_neg h5, if_neg h6, if_pos (by omega), not_is v0.1 (by omega)]
   exact e2
theorem same_all (n : Int) (hn0 : 0 ≤ n) (hn1 : n ≤ 12) : ∀ f : Nat, f ≤ 41 → Same n f := by
 intro f
 induction f with
 | zero =>
  intro _ x gs _ hd _
  obtain ⟨a, b, l⟩ := x
  rw [deepB, Bool.and_eq_true, decide_eq_true_eq] at hd
  omega
 | succ f ih =>
  intro hf x gs hr hd hg
  obtain ⟨a, b, l⟩ := x
  obtain ⟨h1, h2, h3⟩ := right_parts hr
  rw [deepB, Bool.and_eq_true] at hd
  rw [nodes] at hg ⊢
  have hl3 : l.length ≤ 3 := by
   unfold kidsM at h1
   repeat' split at h1
   all_goals omega
  have hd2 := hd.2
  rw [show (42 : Int) - ((f + 1 : Nat) : Int) + 1 = 42 - (f : Int) by omega] at hd2
  obtain ⟨vs, g1, k0, k1, k2, k3, k4, k5⟩ := kids_is (ih (by omega)) l 0 (fun _ => 0) [] gs h3 hd2 (by omega) (by simp only [List.length_nil]; omega)
  obtain ⟨r, g2, e1, e2, e3, e4, e5⟩ := end_is n a b vs g1 hn0 hn1 (by rw [k0]; exact h1) h2 k3 (by omega)
  refine ⟨r, g2, evc (fun k => bldI.eq_2 ..) (ifp hl3 (bnd k1 e1)), ?_, e3, by omega, by omega⟩
  show mkS n (f + 1) a b l gs = some (r, g2)
  rw [mkS]
  by_cases q1 : a = 1
  ·rw [if_pos q1] at e2 ⊢
   have hl0 : l = [] := List.length_eq_zero_iff.1 (by rw [q1] at h1; have : kidsM 1 = 0 := rfl; omega)
   subst hl0
   rw [kidS] at k2
   cases k2
   exact e2
  rw [if_neg q1] at e2 ⊢
  by_cases q2 : a = 2
  ·rw [if_pos q2] at e2 ⊢
   have hl0 : l = [] := List.length_eq_zero_iff.1 (by rw [q2] at h1; have : kidsM 2 = 0 := rfl; omega)
   subst hl0
   rw [kidS] at k2
   cases k2
   exact e2
  rw [if_neg q2] at e2 ⊢
  rw [k2, Option.bind_some]
  exact e2
theorem ex_parts {x : S31} (h : exX x = true) : rightE x = true ∧ deepB x 1 = true ∧ nodes x ≤ 400 := by
 unfold exX exB at h
 rw [eta, Bool.and_eq_true, Bool.and_eq_true, decide_eq_true_eq] at h
 exact ⟨h.1, h.2.1, by omega⟩
theorem out_is (n : Int) (hn0 : 0 ≤ n) (hn1 : n ≤ 12) : ∀ (l : List S31) (ls : List Int) (gs : List S114), (∀ x ∈ l, exX x = true) → ls.length + l.length ≤ 4500 → gs.length ≤ 400 → ∃ c q r, Ev (fun k => outI k n l ls gs) (c, q, r) ∧ outS n l ls gs = some (c, q, r) ∧ q.length ≤ 4500 ∧ r.length ≤ 400 ∧ (c = 0 ∨ c = 11)
 | [], ls, gs, _, h1, h2 => ⟨0, ls, gs, sm _, rfl, by simpa using h1, h2, .inl rfl⟩
 | x :: r, ls, gs, hx, h1, h2 => by
  rw [List.length_cons] at h1
  obtain ⟨p1, p2, p3⟩ := ex_parts (hx x List.mem_cons_self)
  obtain ⟨v, g1, e1, e2, e3, e4, e5⟩ := same_all n hn0 hn1 41 (Nat.le_refl _) x gs p1 p2 (by omega)
  by_cases hgt : (g1.length : Int) > 400
  ·exact ⟨11, [], [], evc (fun k => outI.eq_2 ..) (ifp (by omega) (bnd e1 (ifp hgt (sm _)))), by rw [outS, if_pos (by omega), e2, Option.bind_some]; simp only; rw [if_pos hgt], by decide, by decide, .inr rfl⟩
  ·obtain ⟨c, q, s, f1, f2, f3, f4, f5⟩ := out_is n hn0 hn1 r (ls ++ [v]) g1 (fun y hy => hx y (List.mem_cons_of_mem _ hy)) (by rw [List.length_append, List.length_singleton]; omega) (by omega)
   exact ⟨c, q, s, evc (fun k => outI.eq_2 ..) (ifp (by omega) (bnd e1 (ifn hgt f1))), by rw [outS, if_pos (by omega), e2, Option.bind_some]; simp only; rw [if_neg hgt, f2], f3, f4, f5⟩
theorem chk_is (n : Int) : ∀ (l : List S31), (∀ x ∈ l, HX x) → ∃ c, Ev (fun k => chkI k n l) c ∧ Ev (fun k => chkS k n l) c ∧ (c = 0 → ∀ x ∈ l, exX x = true)
 | [], _ => ⟨0, sm _, sm _, fun _ x hx => by (cases hx)⟩
 | x :: r, h => by
  have hx := h x List.mem_cons_self
  by_cases hb : exX x = true
  ·obtain ⟨N, hN⟩ := HX_kids hx
   have hr := (ex_parts hb).1
   rw [← eta x] at hr
   obtain ⟨m, m1, m2⟩ := most_is N x.f0 x.f1 x.f2 hN hr
   by_cases hm : m ≥ n
   ·exact ⟨5, evc (fun k => chkI.eq_2 ..) (bnd0 (isX x) (ifp hb (bnd m2 (ifp hm (sm _))))), evc (fun k => chkS.eq_2 ..) (bnd (okX hx) (ifp hb (bnd m1 (ifp hm (sm _))))), fun h => by omega⟩
   ·obtain ⟨c, c1, c2, c3⟩ := chk_is n r (fun y hy => h y (List.mem_cons_of_mem _ hy))
    refine ⟨c, evc (fun k => chkI.eq_2 ..) (bnd0 (isX x) (ifp hb (bnd m2 (ifn hm c1)))), evc (fun k => chkS.eq_2 ..) (bnd (okX hx) (ifp hb (bnd m1 (ifn hm c2)))), fun h0 y hy => ?_⟩
    rcases List.mem_cons.1 hy with rfl | hy
    ·exact hb
    ·exact c3 h0 y hy
  ·exact ⟨1, evc (fun k => chkI.eq_2 ..) (bnd0 (isX x) (ifn hb (sm _))), evc (fun k => chkS.eq_2 ..) (bnd (okX hx) (ifn hb (sm _))), fun h => by omega⟩
theorem both (n : Int) (l : List S31) (h : ∀ x ∈ l, HX x) : ∃ r : Int × List S114 × List Int × Int, Ev (fun k => spec_BuildAig.f k n l) r ∧ Ev (fun k => impl_BuildAig.f k n l) r ∧ r.2.1.length ≤ 400 ∧ r.2.2.1.length ≤ 4500 := by
 by_cases h1 : (l.length : Int) > 4096
 ·exact ⟨(0, [], [], 2), evc (fun k => spec_BuildAig.f.eq_1 ..) (ifp h1 (sm _)), evc (fun k => impl_BuildAig.f.eq_1 ..) (ifp h1 (sm _)), Nat.zero_le 400, Nat.zero_le 4500⟩
 have hin : spec_l01In.f n 0 12 = some (decide (0 ≤ n ∧ n ≤ 12)) := by
  unfold spec_l01In.f
  by_cases q : n ≥ 0
  ·rw [if_pos q]
   exact congrArg some (decide_eq_decide.2 ⟨fun h => ⟨q, h⟩, fun h => h.2⟩)
  ·rw [if_neg q, decide_eq_false (fun h => q h.1)]
 have hwi : impl_within.f n 0 12 = some (decide (0 ≤ n ∧ n ≤ 12)) := hin
 by_cases h2 : 0 ≤ n ∧ n ≤ 12
 ·rw [decide_eq_true h2] at hin hwi
  obtain ⟨c, c1, c2, c3⟩ := chk_is n l h
  by_cases h3 : c = 0
  ·obtain ⟨d, q, r, o1, o2, o3, o4, o5⟩ := out_is n h2.1 h2.2 l [] [] (c3 h3) (by simp only [List.length_nil]; omega) (by decide)
   by_cases h4 : d = 0
   ·exact ⟨(n, r, q, 0), evc (fun k => spec_BuildAig.f.eq_1 ..) (ifn h1 (bnd0 hin (ifp rfl (bnd c2 (ifp h3 (bnd0 o2 (ifp h4 (sm _)))))))), evc (fun k => impl_BuildAig.f.eq_1 ..) (ifn h1 (evc (fun k => impl_buildAig.f.eq_1 ..) (bnd0 hwi (ifp rfl (bnd c1 (ifp h3 (bnd o1 (ifp h4 (sm _))))))))), o4, o3⟩
   ·exact ⟨(0, [], [], d), evc (fun k => spec_BuildAig.f.eq_1 ..) (ifn h1 (bnd0 hin (ifp rfl (bnd c2 (ifp h3 (bnd0 o2 (ifn h4 (sm _)))))))), evc (fun k => impl_BuildAig.f.eq_1 ..) (ifn h1 (evc (fun k => impl_buildAig.f.eq_1 ..) (bnd0 hwi (ifp rfl (bnd c1 (ifp h3 (bnd o1 (ifn h4 (sm _))))))))), Nat.zero_le 400, Nat.zero_le 4500⟩
  ·exact ⟨(0, [], [], c), evc (fun k => spec_BuildAig.f.eq_1 ..) (ifn h1 (bnd0 hin (ifp rfl (bnd c2 (ifn h3 (sm _)))))), evc (fun k => impl_BuildAig.f.eq_1 ..) (ifn h1 (evc (fun k => impl_buildAig.f.eq_1 ..) (bnd0 hwi (ifp rfl (bnd c1 (ifn h3 (sm _))))))), Nat.zero_le 400, Nat.zero_le 4500⟩
 ·rw [decide_eq_false h2] at hin hwi
  exact ⟨(0, [], [], 5), evc (fun k => spec_BuildAig.f.eq_1 ..) (ifn h1 (bnd0 hin (ifn (by simp) (sm _)))), evc (fun k => impl_BuildAig.f.eq_1 ..) (ifn h1 (evc (fun k => impl_buildAig.f.eq_1 ..) (bnd0 hwi (ifn (by simp) (sm _))))), Nat.zero_le 400, Nat.zero_le 4500⟩
theorem FnExactBuildAig : laws_FnExactBuildAig.Pure := by
 intro a0 l1 ha h1
 refine Ev.rounds ?_
 refine evc (fun k => laws_FnExactBuildAig.f.eq_1 ..) ?_
 obtain ⟨n1, w1⟩ := wl_of h1
 obtain ⟨u, u0, u1, hu, hu2⟩ := szX_is n1 l1 w1 1048576 (by omega) (by omega)
 by_cases ht : u < 0
 ·exact bnd hu (ifp ht (sm _))
 refine bnd hu (ifn ht ?_)
 have e1 := hu2 (by omega)
 have L1 := HL_cv n1 l1 w1
 obtain ⟨⟨s1, s2, s3, s4⟩, hsp, him, hb1, hb2⟩ := both a0 (l1.map cv) (fun x hx => HL_mem L1 hx)
 have hb1' : s2.length ≤ 400 := hb1
 have hb2' : s3.length ≤ 4500 := hb2
 obtain ⟨M, g1, g2, _, g4⟩ := gatesHeld s2.length 0 s2 1 (by omega) (by omega) (by decide) (by omega)
 obtain ⟨m, m1, m2, m3⟩ := markN_is s3 (1 + 2 * (s2.length : Int)) (by omega) (by omega)
 have hm := heldN_is m (1 + 2 * (s2.length : Int)) (by omega) (by omega) m2
 rw [m1] at hm
 have hma : Ev (fun k => laws_markAig.f k s1 s2 1) (1 + 2 * (s2.length : Int), M) := evc (fun k => laws_markAig.f.eq_1 ..) (bnd (evc (fun k => laws_markGateS.f.eq_1 ..) g1) (sm _))
 have hha : Ev (fun k => laws_heldAig.f k s1 M 1) (1 + 2 * (s2.length : Int)) := evc (fun k => laws_heldAig.f.eq_1 ..) (bnd (evc (fun k => laws_heldGateS.f.eq_1 ..) g4) (ifn (by omega) (sm _)))
 refine bnd (toS_is n1 l1 w1) (bnd hsp (bnd him (bnd (eqAig_self s1 s2 (by omega)) (bnd (eqI_self s3 (by omega)) (bnd (eqS_self n1 _ L1) (bnd hma (bnd m3 (bnd hha (bnd hm ?_)))))))))
 exact ifp ⟨rfl, rfl, rfl, rfl, rfl, by omega, by omega, by omega⟩ (sm _)
end Go.Proofs.Ytcmkkoggdcjceaa.Pure
end
section
set_option linter.unusedVariables false
set_option linter.unusedSimpArgs false
namespace Go.Proofs.Ytcmkkoggdcjceaa.fnExactBuildAig
open Go.ChangeShapes Go.WideShapes Go.ChangeAt Go.RowKit Go.Proofs.Ytcmkkoggdcjceaa.PFnExactBuildAig Go.Proofs.YtcmkkoggdcjceaaW.PrintWords
open Go.ChangeMaps (open_string shut_string)
theorem own : ownKnob Try.prog.godebug = none := by kernel_rfl
theorem laidOut : laidOutB Try.prog = true := by kernel_rfl
set_option maxRecDepth 100000 in
theorem lifted (os : Os) (started : os.Started) (H : Type) (enc : TypeId × Value → H) :
  ReturnsInHanded {} Try.checked os 10 .any (Rows.fnExactBuildAigSpec.pre6 enc Try.prog Try.f10 Rows.fnExactBuildAigRow.domain false) (Rows.fnExactBuildAigSpec.post enc Try.prog Try.f10 false true false false) := by
 refine returnsInHanded_of_change_sized (C := Try.checked) own started (by kernel_rfl) Try.func10
  (ChangeSpec.witness6 (enc := enc) (C := Try.checked) false ⟨#[], #[.int .i64 0, .slice none 0 0], []⟩ 8 (by kernel_rfl) (by kernel_rfl) (by kernel_rfl) (by kernel_rfl)) ?_
 intro W base args ds gs before hval0 hW hcnd hsz0 _
 have hsz : (DataW.weightsEach Try.prog (Try.f10.params.toList ++ Rows.fnExactBuildAigSpec.plain.varTypes Try.prog) (ds ++ gs)).all (· ≤ reachBytes) = true := hsz0
 have hval : ∀ (j : Nat) t v, Try.f10.params[j]? = some t → args[j]? = some v → Value.okWide Try.prog W .any base t v := hval0
 have hW' := hW
 obtain ⟨p, q, hA0, hV, rfl, hfz, hnd⟩ := hW
 have hA : DataW.TrodAll enc Try.prog W 0 (fun _ => true) true Try.f10.params.toList args.toList ds p := hA0
 rw [Try.params10] at hA hval hsz
 obtain ⟨v0, vs0, d0, ds0, p0, q0, hargs, rfl, rfl, h0, r0⟩ := trodAll_cons hA
 obtain ⟨v1, vs1, d1, ds1, p1, q1, rfl, rfl, rfl, h1, r1⟩ := trodAll_cons r0
 obtain ⟨rfl, rfl, rfl⟩ := trodAll_nil r1
 obtain rfl : args = #[v0, v1] := by cases args; simp_all
 obtain ⟨rfl, rfl⟩ := trodVars_none hV
 obtain ⟨a0, rfl, rfl, rfl, y0⟩ := open_int Try.underlying3 (hval 0 3 v0 rfl rfl) h0
 have w0 : Reads.WFI a0 := Reads.wf_i64 y0
 obtain ⟨A1, n1, c1, rfl⟩ := okWide_slice Try.underlying22 (hval 1 22 v1 rfl rfl)
 have k1 := h1
 have lt1 : ∀ x ∈ p1, x.block < W.heap.size := by obtain ⟨m, hm⟩ := k1; exact DataW.trod_lt m _ _ _ hm
 obtain ⟨l1, K1, w1⟩ := Reads.arg (j := 1) (t := 22) (k := (Kd.slice 24 k24)) (wf := (Reads.WFL 40 wf24)) (Reads.sliceR (t := 22) (e := 24) Try.underlying22 (by kernel_rfl) (by kernel_rfl) rk24) hsz rfl rfl h1
 obtain ⟨B1, C1, e1, hc1, hr1⟩ := K1
 simp only [Value.cells, List.cons.injEq, Value.slice.injEq, and_true] at e1
 obtain ⟨rfl, rfl, rfl⟩ := e1
 clear hA0 hval0 hsz0 hsz
 obtain ⟨k, h⟩ := Pure.FnExactBuildAig a0 l1 w0 w1
 refine (laws_FnExactBuildAig.calls k a0 _ _ l1 true W hr1 hc1 h).mono ?_
 rintro e W' ⟨rfl, bel⟩
 exact ⟨_, rfl, _, _, _, [], _, [], hW', trodAll_mk1 (shut_bool Try.underlying4 _), (trodAll_cons_mk (shut_int Try.underlying3 y0) (trodAll_cons_mk (Below.trod laidOut (by kernel_rfl) (of_decide_eq_true (by kernel_rfl)) k1 bel lt1) trodAll_mk0)), rfl, bel.frame _, fun h => by cases h⟩
theorem over : Rows.fnExactBuildAigRow.holds Try.pinned (OpenSpec.ofChange Rows.fnExactBuildAigSpec) :=
 OpenClaim.holds_of_wide 10 Try.f10 rfl rfl rfl rfl rfl rfl rfl ⟨rfl, rfl, rfl, rfl, rfl⟩ rfl rfl rfl rfl rfl (by kernel_rfl) Try.func10 (by kernel_rfl)
  (of_decide_eq_true (by kernel_rfl)) (by unfold Func.isWrapper; first | (rw [if_pos (by decide +kernel)]; kernel_rfl) | (rw [if_neg (by decide +kernel)]; exact ⟨rfl, rfl⟩))
  (fun os started H enc _ => lifted os started H enc)
theorem proved : Rows.FnExactBuildAigSaid := over
end Go.Proofs.Ytcmkkoggdcjceaa.fnExactBuildAig
namespace Go.Proofs.Ytcmkkoggdcjceaa
theorem fnExactBuildAig_holds : Rows.FnExactBuildAigSaid := fnExactBuildAig.proved
end Go.Proofs.Ytcmkkoggdcjceaa
end
#print axioms Go.Proofs.Ytcmkkoggdcjceaa.fnExactBuildAig_holds
