/- WRITTEN BY A PROGRAM OF THIS SESSION (wip/xprint) OVER THE KIT's PRINT, FOR THIS CLAIM: for Go functions that the law reaches, one Lean function each and the proof that Go's call comes to its answer. No conditions but those that each theorem names. -/
import Derived.Test.YtelfahcjeldliaaPFnExactLeastModelx0
import Derived.Test.YtelfahcjeldliaaPFnExactLeastModelx1
import Derived.Test.YtelfahcjeldliaaPFnExactLeastModelx2
import Derived.Test.YtelfahcjeldliaaPFnExactLeastModelx4
import Derived.Test.YtelfahcjeldliaaPFnExactLeastModelx6
namespace Go.Proofs.Ytelfahcjeldliaa.PFnExactLeastModel
open Go.RowKit Go.Proofs.YtelfahcjeldliaaW.PrintWords Go.Proofs.YtelfahcjeldliaaW.PrintLast Go.Proofs.YtelfahcjeldliaaW.PrintMore
attribute [local go_sem] max2_int min2_int max_two min_two max_three min_three max_four min_four   -- for this text's walks alone
set_option linter.unusedVariables false
set_option linter.unusedSimpArgs false

/-! ### laws_FnExactLeastModel: function 7 -/
def lawLM_T : Bool × List (List Nat × List Nat) := (true, [([], []), ([], []), ([1], [1]), ([0, 2, 2], [0, 2]), ([3], [3])])
def lawLM_B : List Nat := [0, 0, 2, 7, 15]
theorem lawLM_tab : rtab .any (opsOf Try.f7 10) = lawLM_T := by kernel_rfl
theorem lawLM_bits : waitsOk lawLM_T.2 lawLM_B = true := by kernel_rfl
theorem heldB_at (kf : Nat) (A : Option Addr) (c : Nat) (G : List Bool) (n : Nat) (hn : G.length = n) (a r : Int) (w : World) (hR : Kd.C Kd.bool w A G.length G) (hc : n ≤ c) (h : laws_heldBoolS.f kf G a = some r) : Calls Try.prog 35 #[.slice A n c, .int .i64 a] w fun e w' => e = .returned (.int .i64 r) ∧ Drawn0 w w' := by
  subst hn
  exact laws_heldBoolS.calls kf A c G a r w hR hc h
def laws_FnExactLeastModel.f (kf : Nat) (a0_0 : Int) (l0_1 : List (List Int)) : Option Bool :=
  (laws_szCnf.f kf a0_0 l0_1 1048576).bind fun t => if t < 0 then some true else
  (laws_toCnf.f kf a0_0 l0_1).bind fun q => (spec_LeastModel.f kf a0_0 l0_1).bind fun s => (impl_LeastModel.f kf a0_0 l0_1).bind fun g => (laws_eqBoolS.f kf s.1 s.1).bind fun b1 => (laws_eqCnf.f kf a0_0 l0_1 a0_0 l0_1).bind fun b2 => (laws_markBoolS.f kf s.1 1).bind fun m => (laws_heldBoolS.f kf m.2 1).bind fun h =>
  if q = (a0_0, l0_1) ∧ g = s ∧ b1 = true ∧ b2 = true ∧ h = m.1 ∧ 0 ≤ m.1 ∧ sumL l0_1 ≤ 1099511627776 ∧ m.2.length = s.1.length then some true else none
set_option maxHeartbeats 4000000 in
set_option maxRecDepth 100000 in
theorem laws_FnExactLeastModel.calls (kf : Nat) (a0_0 : Int) (A0_1 : Option Addr) (c0_1 : Nat) (l0_1 : List (List Int)) (r : Bool) (w : World) (hr0_1 : Kd.C (Kd.slice 3 (Kd.int .i64)) w A0_1 l0_1.length l0_1) (hc0_1 : l0_1.length ≤ c0_1) (h : laws_FnExactLeastModel.f kf a0_0 l0_1 = some r) :
    Calls Try.prog 7 #[.agg #[.int .i64 a0_0, .slice A0_1 l0_1.length c0_1]] w fun e w' => e = .returned (.bool r) ∧ Below w.heap.size w w' := by
  have hu_lCnf := Try.underlying24
  have hu_Cnf := Try.underlying30
  unfold laws_FnExactLeastModel.f at h
  replace h := Option.bind_eq_some_iff.1 h
  obtain ⟨t, hsz, h⟩ := h
  have hb1 : Below w.heap.size w (w.alloc (.cells #[.int .i64 a0_0, .slice A0_1 l0_1.length c0_1] 24)) := (Below.refl _ _).alloc (Nat.le_refl _) _
  have hW : (w.alloc (.cells #[.int .i64 a0_0, .slice A0_1 l0_1.length c0_1] 24)).heap[w.heap.size]? = some (.cells #[.int .i64 a0_0, .slice A0_1 l0_1.length c0_1] 24 (0, 0)) := by
    show (w.heap.push _)[w.heap.size]? = _
    simp
  obtain ⟨W1, hW1, BX, HB1⟩ : ∃ W1, w.alloc (.cells #[.int .i64 a0_0, .slice A0_1 l0_1.length c0_1] 24) = W1 ∧ W1.heap[w.heap.size]? = some (.cells #[.int .i64 a0_0, .slice A0_1 l0_1.length c0_1] 24 (0, 0)) ∧ Below w.heap.size w W1 := ⟨_, rfl, hW, hb1⟩
  have FA := Aside0.mk (foot_and (foot_blk (ok := fun k_ => k_ < W1.heap.size) BX (blk_lt BX)) (foot_C (Kd.heap_slice 3 (Kd.heap_int .i64)) (Kd.C_below hr0_1 HB1)))
  have HB := Aside0.mk HB1
  have HQ := Aside0.mk (Nat.le_refl W1.heap.size)
  have HW1 := Aside0.mk hW1
  clear hb1 hW hW1 BX HB1 hr0_1
  by_cases ht : t < 0
  · rw [if_pos ht] at h
    obtain rfl := Option.some.inj h
    clear h
    go_enter Try.func7, Try.ntmps7
    go_upto_region 2 with fail
    rw [HW1.out]
    clear HW1
    have hcx := FA.out.now.1
    have hx0 := (blk_cell hcx 0).trans (show _ = some (.int .i64 a0_0) from rfl)
    have hx1 := (blk_cell hcx 1).trans (show _ = some (.slice A0_1 l0_1.length c0_1) from rfl)
    go_wp2_with (go_at_call 12; refine (laws_szCnf.calls kf a0_0 A0_1 c0_1 l0_1 1048576 t W1 FA.out.now.2 hc0_1 hsz).mono ?_; rintro e w2 ⟨rfl, hb⟩)
    go_ret
    exact ⟨rfl, HB.out.trans (hb.mono HB.out.size)⟩
  · rw [if_neg ht] at h
    replace h := Option.bind_eq_some_iff.1 h
    obtain ⟨q, hto, h⟩ := h
    replace h := Option.bind_eq_some_iff.1 h
    obtain ⟨⟨W0, s1⟩, hsp, h⟩ := h
    replace h := Option.bind_eq_some_iff.1 h
    obtain ⟨g, him, h⟩ := h
    replace h := Option.bind_eq_some_iff.1 h
    obtain ⟨b1, heb, h⟩ := h
    replace h := Option.bind_eq_some_iff.1 h
    obtain ⟨b2, hec, h⟩ := h
    replace h := Option.bind_eq_some_iff.1 h
    obtain ⟨⟨m, G⟩, hmb, h⟩ := h
    replace h := Option.bind_eq_some_iff.1 h
    obtain ⟨hh, hhb, h⟩ := h
    simp only at heb hmb hhb h
    by_cases hc : q = (a0_0, l0_1) ∧ g = (W0, s1) ∧ b1 = true ∧ b2 = true ∧ hh = m ∧ 0 ≤ m ∧ sumL l0_1 ≤ 1099511627776 ∧ G.length = W0.length
    · rw [if_pos hc] at h
      obtain ⟨rfl, rfl, rfl, rfl, rfl, hm0, hsum, hGl⟩ := hc
      obtain rfl := Option.some.inj h
      clear h
      have hne : (s1 != s1) = false := by simp
      have hne2 : (hh != hh) = false := by simp
      go_enter Try.func7, Try.ntmps7
      go_upto_region 2 with fail
      rw [HW1.out]
      clear HW1
      have hcx := FA.out.now.1
      have hx0 := (blk_cell hcx 0).trans (show _ = some (.int .i64 a0_0) from rfl)
      have hx1 := (blk_cell hcx 1).trans (show _ = some (.slice A0_1 l0_1.length c0_1) from rfl)
      go_upto_region 5 with (go_at_call 12; refine (laws_szCnf.calls kf a0_0 A0_1 c0_1 l0_1 1048576 t W1 FA.out.now.2 hc0_1 hsz).mono ?_; rintro e w2 ⟨rfl, hb⟩; clear hcx hx0 hx1; have mFA_ := Aside0.mk (foot_below FA.out hb); have mB_ := Aside0.mk (HB.out.trans (hb.mono HB.out.size)); have mQ_ := Aside0.mk (Nat.le_trans HQ.out hb.size); clear FA HB HQ; have FA := mFA_; have HB := mB_; have HQ := mQ_; clear mFA_ mB_ mQ_; have hcx := FA.out.now.1; have hx0 := (blk_cell hcx 0).trans (show _ = some (.int .i64 a0_0) from rfl); have hx1 := (blk_cell hcx 1).trans (show _ = some (.slice A0_1 l0_1.length c0_1) from rfl); clear hb)
      go_upto_region 6 with (first
        | (go_at_call 15; refine (laws_toCnf.calls kf a0_0 A0_1 c0_1 l0_1 a0_0 l0_1 _ FA.out.now.2 hc0_1 hto).mono ?_; rintro e w3 ⟨v3, rfl, hS3, hb⟩; clear hcx hx0 hx1; have mFA_ := Aside0.mk (foot_below FA.out hb); have mB_ := Aside0.mk (HB.out.trans (hb.mono HB.out.size)); have mQ_ := Aside0.mk (Nat.le_trans HQ.out hb.size); clear FA HB HQ; have FA := mFA_; have HB := mB_; have HQ := mQ_; clear mFA_ mB_ mQ_; have hcx := FA.out.now.1; have hx0 := (blk_cell hcx 0).trans (show _ = some (.int .i64 a0_0) from rfl); have hx1 := (blk_cell hcx 1).trans (show _ = some (.slice A0_1 l0_1.length c0_1) from rfl); clear hb; obtain ⟨A3, c3, ev3, hl3, hC3⟩ := Kd.R_reads (Kd.S_R hS3); clear hS3; subst ev3; have HB3 := HB)
        | (go_at_call 31; refine (spec_LeastModel.calls kf a0_0 A3 c3 l0_1 W0 s1 w3 hC3 hl3 hsp).mono ?_; rintro e w4 ⟨v4, rfl, hR4, hb⟩; clear hC3 hl3; clear hcx hx0 hx1; have mFA_ := Aside0.mk (foot_below FA.out hb); have mB_ := Aside0.mk (HB.out.trans (hb.mono HB.out.size)); have mQ_ := Aside0.mk (Nat.le_trans HQ.out hb.size); clear FA HB HQ; have FA := mFA_; have HB := mB_; have HQ := mQ_; clear mFA_ mB_ mQ_; have hcx := FA.out.now.1; have hx0 := (blk_cell hcx 0).trans (show _ = some (.int .i64 a0_0) from rfl); have hx1 := (blk_cell hcx 1).trans (show _ = some (.slice A0_1 l0_1.length c0_1) from rfl); clear hb; obtain ⟨A4, c4, ev4⟩ := Kd.R_slice hR4; subst ev4; have FW := Aside0.mk (foot_R (Kd.R_mono (ok' := fun k_ => k_ < w4.heap.size) (Kd.R_bound (Kd.R_lower hR4 HB3.out.size)) (fun k_ hk_ => hk_.2.2.1))); clear hR4 HB3))
      go_upto_region 7 with (go_at_call 15; refine (laws_toCnf.calls kf a0_0 A0_1 c0_1 l0_1 a0_0 l0_1 _ FA.out.now.2 hc0_1 hto).mono ?_; rintro e w5 ⟨v5, rfl, hS5, hb⟩; clear hcx hx0 hx1; have HS5 := Aside0.mk (foot_S (Kd.S_mono (ok' := fun k_ => w4.heap.size ≤ k_ ∧ k_ < w5.heap.size) (Kd.S_lower (Kd.S_bound hS5) HB.out.size) (fun k_ hk_ => ⟨hk_.2.1, hk_.2.2.1⟩))); have HL5 := Aside0.mk hb.size; have HLE := Aside0.mk HQ.out; have mFA_ := Aside0.mk (foot_below FA.out hb); have mFW_ := Aside0.mk (foot_below FW.out hb); have mB_ := Aside0.mk (HB.out.trans (hb.mono HB.out.size)); have mQ_ := Aside0.mk (Nat.le_trans HQ.out hb.size); clear FA FW HB HQ; have FA := mFA_; have FW := mFW_; have HB := mB_; have HQ := mQ_; clear mFA_ mFW_ mB_ mQ_; have hcx := FA.out.now.1; have hx0 := (blk_cell hcx 0).trans (show _ = some (.int .i64 a0_0) from rfl); have hx1 := (blk_cell hcx 1).trans (show _ = some (.slice A0_1 l0_1.length c0_1) from rfl); clear hb; obtain ⟨A5, c5, ev5⟩ := Kd.R_slice (Kd.S_R hS5); clear hS5; subst ev5)
      have hb6 := (below_alloc (Below.refl w5.heap.size w5) (.cells #[.int .i64 a0_0, .slice A5 l0_1.length c5] 30))
      have hg6 := blk_new w5 (.cells #[.int .i64 a0_0, .slice A5 l0_1.length c5] 30)
      generalize w5.alloc (.cells #[.int .i64 a0_0, .slice A5 l0_1.length c5] 30) = w6 at hb6 hg6 ⊢
      have HG6 := Aside0.mk (foot_blk (ok := fun k_ => w4.heap.size ≤ k_ ∧ k_ < w6.heap.size) hg6 ⟨HL5.out, blk_lt hg6⟩)
      have hgx0 := (blk_cell hg6 0).trans (show _ = some (.int .i64 a0_0) from rfl)
      have hgx1 := (blk_cell hg6 1).trans (show _ = some (.slice A5 l0_1.length c5) from rfl)
      have H6 := Aside0.mk hb6.size
      clear hcx hx0 hx1
      have mFA_ := Aside0.mk (foot_below FA.out hb6)
      have mFW_ := Aside0.mk (foot_below FW.out hb6)
      have mHS5_ := Aside0.mk (foot_below HS5.out hb6)
      have mB_ := Aside0.mk (HB.out.trans (hb6.mono HB.out.size))
      have mQ_ := Aside0.mk (Nat.le_trans HQ.out hb6.size)
      clear FA FW HS5 HB HQ
      have FA := mFA_
      have FW := mFW_
      have HS5 := mHS5_
      have HB := mB_
      have HQ := mQ_
      clear mFA_ mFW_ mHS5_ mB_ mQ_
      have hcx := FA.out.now.1
      have hx0 := (blk_cell hcx 0).trans (show _ = some (.int .i64 a0_0) from rfl)
      have hx1 := (blk_cell hcx 1).trans (show _ = some (.slice A0_1 l0_1.length c0_1) from rfl)
      clear hb6 hg6
      go_upto_region 8 with (go_at_call 32; refine (impl_LeastModel.calls kf a0_0 A5 c5 l0_1 W0 s1 w6 (Kd.R_reads' (Kd.S_R HS5.out.now)).2.2 (Kd.R_reads' (Kd.S_R HS5.out.now)).2.1 him).mono ?_; rintro e w7 ⟨v7, rfl, hR7, hb⟩; clear hcx hx0 hx1; clear hgx0 hgx1; have HR7 := Aside0.mk (foot_R (Kd.R_lower (Kd.R_mono (ok' := fun k_ => w6.heap.size ≤ k_) (Kd.R_bound hR7) (fun k_ hk_ => hk_.2.1)) HB.out.size)); have mFA_ := Aside0.mk (foot_below FA.out hb); have mFW_ := Aside0.mk (foot_below FW.out hb); have mHS5_ := Aside0.mk (foot_below HS5.out hb); have mHG6_ := Aside0.mk (foot_below HG6.out hb); have mB_ := Aside0.mk (HB.out.trans (hb.mono HB.out.size)); have mQ_ := Aside0.mk (Nat.le_trans HQ.out hb.size); clear FA FW HS5 HG6 HB HQ; have FA := mFA_; have FW := mFW_; have HS5 := mHS5_; have HG6 := mHG6_; have HB := mB_; have HQ := mQ_; clear mFA_ mFW_ mHS5_ mHG6_ mB_ mQ_; have hcx := FA.out.now.1; have hx0 := (blk_cell hcx 0).trans (show _ = some (.int .i64 a0_0) from rfl); have hx1 := (blk_cell hcx 1).trans (show _ = some (.slice A0_1 l0_1.length c0_1) from rfl); have hgx0 := (blk_cell HG6.out.now 0).trans (show _ = some (.int .i64 a0_0) from rfl); have hgx1 := (blk_cell HG6.out.now 1).trans (show _ = some (.slice A5 l0_1.length c5) from rfl); clear hb; obtain ⟨A7, c7, ev7⟩ := Kd.R_slice hR7; subst ev7; clear hR7)
      go_upto_region 10 with (go_at_call 33; refine (laws_eqBoolS.calls kf A7 c7 W0 A4 c4 W0 true _ (Kd.R_reads' HR7.out.now).2.2 (Kd.R_reads' HR7.out.now).2.1 (Kd.R_reads' FW.out.now).2.2 (Kd.R_reads' FW.out.now).2.1 heb).mono ?_; rintro e w8 ⟨rfl, hd⟩; clear hcx hx0 hx1; clear hgx0 hgx1; have hb := drawn_below hd; clear hd; have mFA_ := Aside0.mk (foot_below FA.out hb); have mFW_ := Aside0.mk (foot_below FW.out hb); have mHS5_ := Aside0.mk (foot_below HS5.out hb); have mHG6_ := Aside0.mk (foot_below HG6.out hb); have mHR7_ := Aside0.mk (foot_below HR7.out hb); have mB_ := Aside0.mk (HB.out.trans (hb.mono HB.out.size)); have mQ_ := Aside0.mk (Nat.le_trans HQ.out hb.size); clear FA FW HS5 HG6 HR7 HB HQ; have FA := mFA_; have FW := mFW_; have HS5 := mHS5_; have HG6 := mHG6_; have HR7 := mHR7_; have HB := mB_; have HQ := mQ_; clear mFA_ mFW_ mHS5_ mHG6_ mHR7_ mB_ mQ_; have hcx := FA.out.now.1; have hx0 := (blk_cell hcx 0).trans (show _ = some (.int .i64 a0_0) from rfl); have hx1 := (blk_cell hcx 1).trans (show _ = some (.slice A0_1 l0_1.length c0_1) from rfl); clear hb; have hgx0 := (blk_cell HG6.out.now 0).trans (show _ = some (.int .i64 a0_0) from rfl); have hgx1 := (blk_cell HG6.out.now 1).trans (show _ = some (.slice A5 l0_1.length c5) from rfl))
      have hbd := below_drew (Below.refl w8.heap.size w8)
      clear hcx hx0 hx1
      clear hgx0 hgx1
      have mFA_ := Aside0.mk (foot_below FA.out hbd)
      have mFW_ := Aside0.mk (foot_below FW.out hbd)
      have mHS5_ := Aside0.mk (foot_below HS5.out hbd)
      have mHG6_ := Aside0.mk (foot_below HG6.out hbd)
      have mHR7_ := Aside0.mk (foot_below HR7.out hbd)
      have mB_ := Aside0.mk (HB.out.trans (hbd.mono HB.out.size))
      have mQ_ := Aside0.mk (Nat.le_trans HQ.out hbd.size)
      clear FA FW HS5 HG6 HR7 HB HQ
      have FA := mFA_
      have FW := mFW_
      have HS5 := mHS5_
      have HG6 := mHG6_
      have HR7 := mHR7_
      have HB := mB_
      have HQ := mQ_
      clear mFA_ mFW_ mHS5_ mHG6_ mHR7_ mB_ mQ_
      have hcx := FA.out.now.1
      have hx0 := (blk_cell hcx 0).trans (show _ = some (.int .i64 a0_0) from rfl)
      have hx1 := (blk_cell hcx 1).trans (show _ = some (.slice A0_1 l0_1.length c0_1) from rfl)
      have hgx0 := (blk_cell HG6.out.now 0).trans (show _ = some (.int .i64 a0_0) from rfl)
      have hgx1 := (blk_cell HG6.out.now 1).trans (show _ = some (.slice A5 l0_1.length c5) from rfl)
      clear hbd
      generalize hw9 : w8.drew = w9 at *
      refine start_ (n := 5) (S := fun w' => w'.cell? ⟨w.heap.size, 0, none⟩ = some (.int .i64 a0_0) ∧ w'.cell? ⟨w.heap.size, 1, none⟩ = some (.slice A0_1 l0_1.length c0_1) ∧ w'.cell? ⟨w5.heap.size, 0, none⟩ = some (.int .i64 a0_0) ∧ w'.cell? ⟨w5.heap.size, 1, none⟩ = some (.slice A5 l0_1.length c5)) (ds := []) #[false, false, false, false, false] (by kernel_rfl) rfl rfl (by rw [hw9]; exact ⟨hx0, hx1, hgx0, hgx1⟩) (fun hHeld => ?_)
      refine with_tabW lawLM_tab lawLM_bits (fun HT_ HW_ => ?_)
      rw [hw9] at hHeld ⊢
      clear hw9
      refine take_ (i := 0) (N := some 41) (v := ?_) (a' := ?_) #[true, false, false, false, false] rfl rfl (take_ofW HT_.out HW_.out (by kernel_rfl)) (fun _ _ _ h => h) (Or.inl ⟨by rfl, ?_⟩) hHeld ?_ ?_
      rotate_left
      · rintro w' ⟨s0, s1, s2, s3⟩
        go_simp
        with_reducible rfl
      rotate_left
      · simp only [Act.put, List.setIfInBounds_toArray, List.set_cons_zero, List.set_cons_succ, i64_w, i32_w]
        rfl
      refine take_ (i := 1) (N := some 42) (v := ?_) (a' := ?_) #[true, true, false, false, false] rfl rfl (take_ofW HT_.out HW_.out (by kernel_rfl)) (fun _ _ _ h => h) (Or.inl ⟨by rfl, ?_⟩) hHeld ?_ ?_
      rotate_left
      · rintro w' ⟨s0, s1, s2, s3⟩
        go_simp
        with_reducible rfl
      rotate_left
      · simp only [Act.put, List.setIfInBounds_toArray, List.set_cons_zero, List.set_cons_succ, i64_w, i32_w]
        rfl
      refine one_ (i := 2) (N := some 43) #[true, true, true, false, false] rfl rfl (one_of HT_.out (by kernel_rfl)) (by decide) (fun K hK => ?_)
      refine call_ 15 #[.agg #[.int .i64 a0_0, .slice A0_1 l0_1.length c0_1]] (by rfl) rfl ?hrun2 ?h2
      case hrun2 =>
        have he := enters_of Try.func15 (by kernel_rfl) rfl
        unfold execOp
        simp [resolve, Deferred.ofValue, invoke, Act.eval, he]
      refine (laws_toCnf.calls kf a0_0 A0_1 c0_1 l0_1 a0_0 l0_1 _ FA.out.now.2 hc0_1 hto).mono ?_
      rintro e w10 ⟨v10, rfl, hS10, hb⟩
      refine ⟨_, rfl, ?_⟩
      clear hcx hx0 hx1
      clear hgx0 hgx1
      have mFA_ := Aside0.mk (foot_below FA.out hb)
      have mFW_ := Aside0.mk (foot_below FW.out hb)
      have mHS5_ := Aside0.mk (foot_below HS5.out hb)
      have mHG6_ := Aside0.mk (foot_below HG6.out hb)
      have mHR7_ := Aside0.mk (foot_below HR7.out hb)
      have mB_ := Aside0.mk (HB.out.trans (hb.mono HB.out.size))
      have mQ_ := Aside0.mk (Nat.le_trans HQ.out hb.size)
      clear FA FW HS5 HG6 HR7 HB HQ
      have FA := mFA_
      have FW := mFW_
      have HS5 := mHS5_
      have HG6 := mHG6_
      have HR7 := mHR7_
      have HB := mB_
      have HQ := mQ_
      clear mFA_ mFW_ mHS5_ mHG6_ mHR7_ mB_ mQ_
      have hcx := FA.out.now.1
      have hx0 := (blk_cell hcx 0).trans (show _ = some (.int .i64 a0_0) from rfl)
      have hx1 := (blk_cell hcx 1).trans (show _ = some (.slice A0_1 l0_1.length c0_1) from rfl)
      have hgx0 := (blk_cell HG6.out.now 0).trans (show _ = some (.int .i64 a0_0) from rfl)
      have hgx1 := (blk_cell HG6.out.now 1).trans (show _ = some (.slice A5 l0_1.length c5) from rfl)
      clear hb
      obtain ⟨A10, c10, ev10, hl10, hC10⟩ := Kd.R_reads (Kd.S_R hS10)
      clear hS10
      subst ev10
      refine hK.out _ _ ⟨hx0, hx1, hgx0, hgx1⟩ (fun hHeld => ?_)
      clear hK K
      refine norm_ (a' := ?_) ?_ ?_
      rotate_left
      · show Act.put _ (some 43) _ = _
        simp only [Act.put, List.setIfInBounds_toArray, List.set_cons_zero, List.set_cons_succ, i64_w, i32_w]
        rfl
      refine one_ (i := 3) (N := some 44) #[true, true, true, true, false] rfl rfl (one_of HT_.out (by kernel_rfl)) (by decide) (fun K hK => ?_)
      refine call_ 18 #[.agg #[.int .i64 a0_0, .slice A5 l0_1.length c5], .agg #[.int .i64 a0_0, .slice A10 l0_1.length c10]] (by rfl) rfl ?hrun3 ?h3
      case hrun3 =>
        have he := enters_of Try.func18 (by kernel_rfl) rfl
        unfold execOp
        simp [resolve, Deferred.ofValue, invoke, Act.eval, he]
      refine (laws_eqCnf.calls kf a0_0 A5 c5 l0_1 a0_0 A10 c10 l0_1 true w10 (Kd.R_reads' (Kd.S_R HS5.out.now)).2.2 (Kd.R_reads' (Kd.S_R HS5.out.now)).2.1 hC10 hl10 hec).mono ?_
      rintro e w11 ⟨rfl, hb⟩
      refine ⟨_, rfl, ?_⟩
      clear hC10 hl10
      clear hcx hx0 hx1
      clear hgx0 hgx1
      have mFA_ := Aside0.mk (foot_below FA.out hb)
      have mFW_ := Aside0.mk (foot_below FW.out hb)
      have mHS5_ := Aside0.mk (foot_below HS5.out hb)
      have mHG6_ := Aside0.mk (foot_below HG6.out hb)
      have mHR7_ := Aside0.mk (foot_below HR7.out hb)
      have mB_ := Aside0.mk (HB.out.trans (hb.mono HB.out.size))
      have mQ_ := Aside0.mk (Nat.le_trans HQ.out hb.size)
      clear FA FW HS5 HG6 HR7 HB HQ
      have FA := mFA_
      have FW := mFW_
      have HS5 := mHS5_
      have HG6 := mHG6_
      have HR7 := mHR7_
      have HB := mB_
      have HQ := mQ_
      clear mFA_ mFW_ mHS5_ mHG6_ mHR7_ mB_ mQ_
      have hcx := FA.out.now.1
      have hx0 := (blk_cell hcx 0).trans (show _ = some (.int .i64 a0_0) from rfl)
      have hx1 := (blk_cell hcx 1).trans (show _ = some (.slice A0_1 l0_1.length c0_1) from rfl)
      have hgx0 := (blk_cell HG6.out.now 0).trans (show _ = some (.int .i64 a0_0) from rfl)
      have hgx1 := (blk_cell HG6.out.now 1).trans (show _ = some (.slice A5 l0_1.length c5) from rfl)
      clear hb
      refine hK.out _ _ ⟨hx0, hx1, hgx0, hgx1⟩ (fun hHeld => ?_)
      clear hK K
      refine norm_ (a' := ?_) ?_ ?_
      rotate_left
      · show Act.put _ (some 44) _ = _
        simp only [Act.put, List.setIfInBounds_toArray, List.set_cons_zero, List.set_cons_succ, i64_w, i32_w]
        rfl
      refine pure_ (i := 4) (N := some 45) (v := ?_) (a' := ?_) #[true, true, true, true, true] rfl rfl (any_of HT_.out (by kernel_rfl)) (fun _ _ _ h => h) (Or.inl ⟨by rfl, ?_⟩) ?_ ?_
      rotate_left
      · intro w'
        go_simp
        with_reducible rfl
      rotate_left
      · simp only [Act.put, List.setIfInBounds_toArray, List.set_cons_zero, List.set_cons_succ, i64_w, i32_w]
        rfl
      refine done_ (done_of HT_.out (by kernel_rfl)) ?_
      clear hHeld HT_ HW_
      go_upto_region 14 with (go_at_call 26; refine (markCnf_any (fun k_ => w4.heap.size ≤ k_ ∧ k_ < w5.heap.size) (.slice A5 l0_1.length c5) l0_1 a0_0 1 w _ HB.out HS5.out.now (by decide) (by omega)).mono ?_; rintro e w12 ⟨⟨b12, rfl, hb0, hb2⟩, hbB, hbK⟩; clear hcx hx0 hx1; clear hgx0 hgx1; clear HG6 HS5; have mFA_ := Aside0.mk (foot_kept FA.out hbK (fun k_ hk_ hs_ => by have := hs_.1; have := HLE.out; omega)); have mFW_ := Aside0.mk (foot_kept FW.out hbK (fun k_ hk_ hs_ => by have := hs_.1; omega)); have mHR7_ := Aside0.mk (foot_kept HR7.out hbK (fun k_ hk_ hs_ => by have := hs_.2; have := H6.out; omega)); have mB_ := Aside0.mk hbB; have mQ_ := Aside0.mk (Nat.le_trans HQ.out hbK.1); clear FA FW HR7 HB HQ; have FA := mFA_; have FW := mFW_; have HR7 := mHR7_; have HB := mB_; have HQ := mQ_; clear mFA_ mFW_ mHR7_ mB_ mQ_; have hcx := FA.out.now.1; have hx0 := (blk_cell hcx 0).trans (show _ = some (.int .i64 a0_0) from rfl); have hx1 := (blk_cell hcx 1).trans (show _ = some (.slice A0_1 l0_1.length c0_1) from rfl); clear hbK hbB)
      go_upto_region 17 with (go_at_call 33; refine (laws_eqBoolS.calls kf A7 c7 W0 A4 c4 W0 true _ (Kd.R_reads' HR7.out.now).2.2 (Kd.R_reads' HR7.out.now).2.1 (Kd.R_reads' FW.out.now).2.2 (Kd.R_reads' FW.out.now).2.1 heb).mono ?_; rintro e w13 ⟨rfl, hd⟩; clear hcx hx0 hx1; have hb := drawn_below hd; clear hd; have mFA_ := Aside0.mk (foot_below FA.out hb); have mFW_ := Aside0.mk (foot_below FW.out hb); have mHR7_ := Aside0.mk (foot_below HR7.out hb); have mB_ := Aside0.mk (HB.out.trans (hb.mono HB.out.size)); have mQ_ := Aside0.mk (Nat.le_trans HQ.out hb.size); clear FA FW HR7 HB HQ; have FA := mFA_; have FW := mFW_; have HR7 := mHR7_; have HB := mB_; have HQ := mQ_; clear mFA_ mFW_ mHR7_ mB_ mQ_; have hcx := FA.out.now.1; have hx0 := (blk_cell hcx 0).trans (show _ = some (.int .i64 a0_0) from rfl); have hx1 := (blk_cell hcx 1).trans (show _ = some (.slice A0_1 l0_1.length c0_1) from rfl); clear hb)
      go_upto_region 18 with (go_at_call 34; refine (laws_markBoolS.calls kf (fun k_ => w6.heap.size ≤ k_) (.slice A7 W0.length c7) W0 1 hh G w _ HB.out HR7.out.now hmb).mono ?_; rintro e w14 ⟨rfl, hR14, hbB, hbK⟩; clear hcx hx0 hx1; clear HR7; have mFA_ := Aside0.mk (foot_kept FA.out hbK (fun k_ hk_ hs_ => by have := HLE.out; have := HL5.out; have := H6.out; omega)); have mFW_ := Aside0.mk (foot_kept FW.out hbK (fun k_ hk_ hs_ => by have := HL5.out; have := H6.out; omega)); have mB_ := Aside0.mk hbB; have mQ_ := Aside0.mk (Nat.le_trans HQ.out hbK.1); clear FA FW HB HQ; have FA := mFA_; have FW := mFW_; have HB := mB_; have HQ := mQ_; clear mFA_ mFW_ mB_ mQ_; have hcx := FA.out.now.1; have hx0 := (blk_cell hcx 0).trans (show _ = some (.int .i64 a0_0) from rfl); have hx1 := (blk_cell hcx 1).trans (show _ = some (.slice A0_1 l0_1.length c0_1) from rfl); have HR14 := Aside0.mk (foot_R (Kd.R_mono (ok' := fun _ => True) hR14 (fun _ _ => trivial))); clear hbK hbB hR14)
      go_upto_region 24 with (go_at_call 35; refine (heldB_at kf A7 c7 G W0.length hGl 1 hh _ (Kd.R_reads' HR14.out.now).2.2 (Kd.R_reads' HR14.out.now).2.1 hhb).mono ?_; rintro e w15 ⟨rfl, hd⟩; clear hcx hx0 hx1; have hb := drawn_below hd; clear hd; have mFA_ := Aside0.mk (foot_below FA.out hb); have mFW_ := Aside0.mk (foot_below FW.out hb); have mHR14_ := Aside0.mk (foot_below HR14.out hb); have mB_ := Aside0.mk (HB.out.trans (hb.mono HB.out.size)); have mQ_ := Aside0.mk (Nat.le_trans HQ.out hb.size); clear FA FW HR14 HB HQ; have FA := mFA_; have FW := mFW_; have HR14 := mHR14_; have HB := mB_; have HQ := mQ_; clear mFA_ mFW_ mHR14_ mB_ mQ_; have hcx := FA.out.now.1; have hx0 := (blk_cell hcx 0).trans (show _ = some (.int .i64 a0_0) from rfl); have hx1 := (blk_cell hcx 1).trans (show _ = some (.slice A0_1 l0_1.length c0_1) from rfl); clear hb)
      go_wp2_with (first
        | (go_at_call 15; refine (laws_toCnf.calls kf a0_0 A0_1 c0_1 l0_1 a0_0 l0_1 _ FA.out.now.2 hc0_1 hto).mono ?_; rintro e w16 ⟨v16, rfl, hS16, hb⟩; clear hcx hx0 hx1; have mFA_ := Aside0.mk (foot_below FA.out hb); have mFW_ := Aside0.mk (foot_below FW.out hb); have mHR14_ := Aside0.mk (foot_below HR14.out hb); have mB_ := Aside0.mk (HB.out.trans (hb.mono HB.out.size)); have mQ_ := Aside0.mk (Nat.le_trans HQ.out hb.size); clear FA FW HR14 HB HQ; have FA := mFA_; have FW := mFW_; have HR14 := mHR14_; have HB := mB_; have HQ := mQ_; clear mFA_ mFW_ mHR14_ mB_ mQ_; have hcx := FA.out.now.1; have hx0 := (blk_cell hcx 0).trans (show _ = some (.int .i64 a0_0) from rfl); have hx1 := (blk_cell hcx 1).trans (show _ = some (.slice A0_1 l0_1.length c0_1) from rfl); clear hb; obtain ⟨A16, c16, ev16, hl16, hC16⟩ := Kd.R_reads (Kd.S_R hS16); clear hS16; subst ev16)
        | (go_at_call 32; refine (impl_LeastModel.calls kf a0_0 A16 c16 l0_1 W0 s1 w16 hC16 hl16 him).mono ?_; rintro e w17 ⟨v17, rfl, hR17, hb⟩; clear hC16 hl16; clear hcx hx0 hx1; have mFA_ := Aside0.mk (foot_below FA.out hb); have mFW_ := Aside0.mk (foot_below FW.out hb); have mHR14_ := Aside0.mk (foot_below HR14.out hb); have mB_ := Aside0.mk (HB.out.trans (hb.mono HB.out.size)); have mQ_ := Aside0.mk (Nat.le_trans HQ.out hb.size); clear FA FW HR14 HB HQ; have FA := mFA_; have FW := mFW_; have HR14 := mHR14_; have HB := mB_; have HQ := mQ_; clear mFA_ mFW_ mHR14_ mB_ mQ_; have hcx := FA.out.now.1; have hx0 := (blk_cell hcx 0).trans (show _ = some (.int .i64 a0_0) from rfl); have hx1 := (blk_cell hcx 1).trans (show _ = some (.slice A0_1 l0_1.length c0_1) from rfl); clear hb; obtain ⟨A17, c17, ev17, hl17, hC17⟩ := Kd.R_reads hR17; clear hR17; subst ev17)
        | (go_at_call 33; refine (laws_eqBoolS.calls kf A17 c17 W0 A4 c4 W0 true w17 hC17 hl17 (Kd.R_reads' FW.out.now).2.2 (Kd.R_reads' FW.out.now).2.1 heb).mono ?_; rintro e w18 ⟨rfl, hd⟩; clear hC17 hl17; clear hcx hx0 hx1; have hb := drawn_below hd; clear hd; have mFA_ := Aside0.mk (foot_below FA.out hb); have mFW_ := Aside0.mk (foot_below FW.out hb); have mHR14_ := Aside0.mk (foot_below HR14.out hb); have mB_ := Aside0.mk (HB.out.trans (hb.mono HB.out.size)); have mQ_ := Aside0.mk (Nat.le_trans HQ.out hb.size); clear FA FW HR14 HB HQ; have FA := mFA_; have FW := mFW_; have HR14 := mHR14_; have HB := mB_; have HQ := mQ_; clear mFA_ mFW_ mHR14_ mB_ mQ_; have hcx := FA.out.now.1; have hx0 := (blk_cell hcx 0).trans (show _ = some (.int .i64 a0_0) from rfl); have hx1 := (blk_cell hcx 1).trans (show _ = some (.slice A0_1 l0_1.length c0_1) from rfl); clear hb)
        | (go_at_call 35; refine (heldB_at kf A7 c7 G W0.length hGl 1 hh _ (Kd.R_reads' HR14.out.now).2.2 (Kd.R_reads' HR14.out.now).2.1 hhb).mono ?_; rintro e w19 ⟨rfl, hd⟩; clear hcx hx0 hx1; have hb := drawn_below hd; clear hd; have mFA_ := Aside0.mk (foot_below FA.out hb); have mFW_ := Aside0.mk (foot_below FW.out hb); have mHR14_ := Aside0.mk (foot_below HR14.out hb); have mB_ := Aside0.mk (HB.out.trans (hb.mono HB.out.size)); have mQ_ := Aside0.mk (Nat.le_trans HQ.out hb.size); clear FA FW HR14 HB HQ; have FA := mFA_; have FW := mFW_; have HR14 := mHR14_; have HB := mB_; have HQ := mQ_; clear mFA_ mFW_ mHR14_ mB_ mQ_; have hcx := FA.out.now.1; have hx0 := (blk_cell hcx 0).trans (show _ = some (.int .i64 a0_0) from rfl); have hx1 := (blk_cell hcx 1).trans (show _ = some (.slice A0_1 l0_1.length c0_1) from rfl); clear hb))
      go_ret
      exact ⟨rfl, HB.out⟩
    · rw [if_neg hc] at h
      cases h

end Go.Proofs.Ytelfahcjeldliaa.PFnExactLeastModel
