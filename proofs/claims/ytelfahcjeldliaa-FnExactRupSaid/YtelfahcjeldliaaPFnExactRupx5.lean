/- WRITTEN BY A PROGRAM OF THIS SESSION (wip/xprint) OVER THE KIT's PRINT, FOR THIS CLAIM: for Go functions that the law reaches, one Lean function each and the proof that Go's call comes to its answer. No conditions but those that each theorem names. -/
import Derived.Test.YtelfahcjeldliaaPFnExactRupx0
import Derived.Test.YtelfahcjeldliaaPFnExactRupx4
namespace Go.Proofs.Ytelfahcjeldliaa.PFnExactRup
open Go.RowKit Go.Proofs.YtelfahcjeldliaaW.PrintWords Go.Proofs.YtelfahcjeldliaaW.PrintLast Go.Proofs.YtelfahcjeldliaaW.PrintMore
attribute [local go_sem] max2_int min2_int max_two min_two max_three min_three max_four min_four   -- for this text's walks alone
set_option linter.unusedVariables false
set_option linter.unusedSimpArgs false

/-! ### impl_newState: function 67 -/
def newState_T : Bool × List (List Nat × List Nat) := (true, [([], []), ([], []), ([1], [1]), ([2], [2]), ([3, 3], [3]), ([0, 4], [0, 4]), ([5], [5]), ([6, 0, 1, 2, 3, 4, 5, 6], [6])])
def newState_B : List Nat := [0, 0, 2, 6, 14, 31, 63, 127]
theorem newState_tab : rtab .any (opsOf Try.f67 1) = newState_T := by kernel_rfl
theorem newState_bits : waitsOk newState_T.2 newState_B = true := by kernel_rfl
set_option maxHeartbeats 4000000 in
set_option maxRecDepth 100000 in
theorem newState_any (vars : Int) (A : Option Addr) (n c : Nat) (w : World) (h0 : 0 ≤ vars) (h1 : vars ≤ 4000) :
    Calls Try.prog 67 #[.agg #[.int .i64 vars, .slice A n c]] w fun e W' => ∃ g b cv, e = .returned (.pointer (some ⟨g, 0, none⟩)) ∧ ST w W' g b vars A n c cv (List.replicate (vars + 1).toNat 0) := by
  obtain ⟨vs, hvs⟩ : ∃ vs, List.replicate (vars + 1).toNat (0 : Int) = vs := ⟨_, rfl⟩
  rw [hvs]
  have HV := Aside0.mk hvs
  have HVL := Aside0.mk (show vs.length = (vars + 1).toNat by rw [← hvs]; simp)
  clear hvs
  have hu_Cnf := Try.underlying30
  have hu_state := Try.underlying112
  have ew : IntKind.i64.wrap (vars + 1) = vars + 1 := IntWalk.i64_in _ (by omega)
  go_enter Try.func67, Try.ntmps67
  have hW : (w.alloc (.cells #[.int .i64 vars, .slice A n c] 30)).heap[w.heap.size]? = some (.cells #[.int .i64 vars, .slice A n c] 30 (0, 0)) := by
    show (w.heap.push _)[w.heap.size]? = _
    simp
  obtain ⟨W1, gb, hW1, hgb, BX, HB1⟩ : ∃ W1 gb, w.alloc (.cells #[.int .i64 vars, .slice A n c] 30) = W1 ∧ w.heap.size = gb ∧ Aside0 (W1.heap[gb]? = some (.cells #[.int .i64 vars, .slice A n c] 30 (0, 0))) ∧ Aside0 (Below w.heap.size w W1) :=
    ⟨_, _, rfl, rfl, ⟨hW⟩, ⟨(Below.refl _ _).alloc (Nat.le_refl _) _⟩⟩
  have HW1 := Aside0.mk hW1
  have HGB := Aside0.mk hgb
  clear hW hW1 hgb
  go_upto_region 1 with fail
  rw [HW1.out, HGB.out]
  clear HW1
  refine start_ (n := 8) (S := fun w' => w'.cell? ⟨gb, 0, none⟩ = some (.int .i64 vars) ∧ w'.cell? ⟨gb, 1, none⟩ = some (.slice A n c)) (ds := []) #[false, false, false, false, false, false, false, false] (by kernel_rfl) rfl rfl ⟨(blk_cell BX.out 0).trans rfl, (blk_cell BX.out 1).trans rfl⟩ (fun hHeld => ?_)
  refine with_tabW newState_tab newState_bits (fun HT_ HW_ => ?_)
  replace BX : Aside0 (W1.drew.heap[gb]? = some (.cells #[.int .i64 vars, .slice A n c] 30 (0, 0))) := ⟨BX.out⟩
  replace HB1 : Aside0 (Below w.heap.size w W1.drew) := ⟨HB1.out.drew⟩
  generalize W1.drew = w20 at BX HB1 hHeld ⊢
  refine pure_ (i := 1) (N := some 4) (v := ?_) (a' := ?_) #[false, true, false, false, false, false, false, false] rfl rfl (any_of HT_.out (by kernel_rfl)) (fun _ _ _ h => h) (Or.inl ⟨by rfl, ?_⟩) ?_ ?_
  rotate_left
  · intro w'
    go_simp
    with_reducible rfl
  rotate_left
  · simp only [Act.put, List.setIfInBounds_toArray, List.set_cons_zero, List.set_cons_succ, i64_w, i32_w]
    rfl
  refine take_ (i := 0) (N := some 3) (v := ?_) (a' := ?_) #[true, true, false, false, false, false, false, false] rfl rfl (take_ofW HT_.out HW_.out (by kernel_rfl)) (fun _ _ _ h => h) (Or.inl ⟨by rfl, ?_⟩) hHeld ?_ ?_
  rotate_left
  · rintro w' ⟨s0, s1⟩
    go_simp
    with_reducible rfl
  rotate_left
  · simp only [Act.put, List.setIfInBounds_toArray, List.set_cons_zero, List.set_cons_succ, i64_w, i32_w]
    rfl
  refine take_ (i := 2) (N := some 5) (v := ?_) (a' := ?_) #[true, true, true, false, false, false, false, false] rfl rfl (take_ofW HT_.out HW_.out (by kernel_rfl)) (fun _ _ _ h => h) (Or.inl ⟨by rfl, ?_⟩) hHeld ?_ ?_
  rotate_left
  · rintro w' ⟨s0, s1⟩
    go_simp
    with_reducible rfl
  rotate_left
  · simp only [Act.put, List.setIfInBounds_toArray, List.set_cons_zero, List.set_cons_succ, i64_w, i32_w]
    rfl
  refine pure_ (i := 3) (N := some 6) (v := ?_) (a' := ?_) #[true, true, true, true, false, false, false, false] rfl rfl (any_of HT_.out (by kernel_rfl)) (fun _ _ _ h => h) (Or.inl ⟨by rfl, ?_⟩) ?_ ?_
  rotate_left
  · intro w'
    go_simp
    with_reducible rfl
  rotate_left
  · simp only [Act.put, List.setIfInBounds_toArray, List.set_cons_zero, List.set_cons_succ, i64_w, i32_w]
    rfl
  refine one_ (i := 4) (N := some 7) #[true, true, true, true, true, false, false, false] rfl rfl (one_of HT_.out (by kernel_rfl)) (by decide) (fun K hK => ?_)
  refine Kd.R_make_step (Kd.int .i64) (w0 := w) w.heap.size 3 (by rfl) (N := 7) rfl 37 (.tmp 6) (.tmp 6) rfl (vars + 1) (by first | rfl | (go_simp; done) | (go_simp; rfl)) (by first | rfl | (go_simp; done) | (go_simp; rfl)) Try.underlying37 (.int .i64 0) 8 info3 rfl (by decide) (by decide) (0 : Int) (ok := fun k => k ≠ gb) (okp := fun _ => False) rfl (fun _ hk => hk.elim) (by have := blk_lt BX.out; omega) (by omega) (by omega) HB1.out (by exact HB1.out.size) ?_
  intro v1 w21 ho hb hg hnew
  obtain ⟨b, cap, ev, hb0, hb1, cells, hcells⟩ := Kd.R_form ho (by simp; omega)
  subst ev
  have n0_ := Aside0.mk (blk_grown BX.out hg (by simp))
  have n1_ := Aside0.mk hb
  have n2_ := Aside0.mk ho
  clear BX HB1 hcells hb hg
  have BX := n0_
  have HB1 := n1_
  clear n0_ n1_ ho hnew
  rw [HV.out] at n2_
  refine hK.out _ _ ⟨(blk_cell BX.out 0).trans rfl, (blk_cell BX.out 1).trans rfl⟩ (fun hHeld => ?_)
  clear hK K
  refine norm_ (a' := ?_) ?_ ?_
  rotate_left
  · show Act.put _ (some 7) _ = _
    simp only [Act.put, List.setIfInBounds_toArray, List.set_cons_zero, List.set_cons_succ, i64_w, i32_w]
    rfl
  refine pure_ (i := 5) (N := some 8) (v := ?_) (a' := ?_) #[true, true, true, true, true, true, false, false] rfl rfl (any_of HT_.out (by kernel_rfl)) (fun _ _ _ h => h) (Or.inl ⟨by rfl, ?_⟩) ?_ ?_
  rotate_left
  · intro w'
    go_simp
    with_reducible rfl
  rotate_left
  · simp only [Act.put, List.setIfInBounds_toArray, List.set_cons_zero, List.set_cons_succ, i64_w, i32_w]
    rfl
  refine one_ (i := 6) (N := some 9) #[true, true, true, true, true, true, true, false] rfl rfl (one_of HT_.out (by kernel_rfl)) (by decide) (fun K hK => ?_)
  refine box_step (by rfl) (N := 9) rfl (cs := #[.int .i64 vars, .slice A n c, .slice (some ⟨b, 0, none⟩) (vars + 1).toNat cap]) (t := 112) ?hr9 ?_
  case hr9 => first | (go_simp; done) | (go_simp; rfl)
  intro g hg w22 hbox hb2
  have n0_ := Aside0.mk (blk_below BX.out hb2)
  have n1_ := Aside0.mk (HB1.out.trans (hb2.mono HB1.out.size))
  have n3_ := Aside0.mk (Kd.R_below n2_.out hb2)
  have n4_ := Aside0.mk (show w22.heap[g]? = some (.cells #[.int .i64 vars, .slice A n c, .slice (some ⟨b, 0, none⟩) vs.length cap] 112 (0, 0)) by rw [HVL.out]; exact hbox)
  have n5_ := Aside0.mk (show w.heap.size ≤ g by rw [hg]; exact HB1.out.size)
  clear BX HB1 n2_ hbox hb2 hg
  refine hK.out _ _ ⟨(blk_cell n0_.out 0).trans rfl, (blk_cell n0_.out 1).trans rfl⟩ (fun hHeld => ?_)
  clear hK K
  refine norm_ (a' := ?_) ?_ ?_
  rotate_left
  · show Act.put _ (some 9) _ = _
    simp only [Act.put, List.setIfInBounds_toArray, List.set_cons_zero, List.set_cons_succ, i64_w, i32_w]
    rfl
  refine pure_ (i := 7) (N := some 2) (v := ?_) (a' := ?_) #[true, true, true, true, true, true, true, true] rfl rfl (any_of HT_.out (by kernel_rfl)) (fun _ _ _ h => h) (Or.inl ⟨by rfl, ?_⟩) ?_ ?_
  rotate_left
  · intro w'
    go_simp
    with_reducible rfl
  rotate_left
  · simp only [Act.put, List.setIfInBounds_toArray, List.set_cons_zero, List.set_cons_succ, i64_w, i32_w]
    rfl
  refine done_ (done_of HT_.out (by kernel_rfl)) ?_
  go_wp2
  go_ret
  exact ⟨g, b, cap, rfl, n1_.out, n5_.out, n4_.out, Kd.R_mono n3_.out (fun _ _ => trivial)⟩

/-! ### impl_isRup: function 62 -/
/-- the values behind the literals that are made false, or none if one of them is true -/
def assumeL : List Int → List Int → Option (List Int)
  | vals, [] => some vals
  | vals, x :: r => if isL vals x = true then none else assumeL (setL vals (-x)) r
theorem assumeL_length : ∀ (l vals v2 : List Int), assumeL vals l = some v2 → v2.length = vals.length
  | [], vals, v2, h => by rw [assumeL] at h; rw [← Option.some.inj h]
  | x :: r, vals, v2, h => by
    rw [assumeL] at h
    split at h
    · cases h
    · rw [assumeL_length r _ v2 h, setL_length]
def impl_isRup.f (k : Nat) (a0_0 : Int) (l0_1 : List (List Int)) (l1 : List Int) : Option Bool :=
  if decide (0 ≤ a0_0) && decide (a0_0 ≤ 4000) && fitL (a0_0 + 1).toNat l1 && (l0_1.all fun c => fitL (a0_0 + 1).toNat c) then
    (match assumeL (List.replicate (a0_0 + 1).toNat 0) l1 with
      | none => some true
      | some vals => (propL l0_1 k vals []).bind fun t => some (decide (0 ≤ t.2.2)))
  else none
theorem impl_isRup.mono : ∀ a0 a1 a2 k, LeO (impl_isRup.f k a0 a1 a2) (impl_isRup.f (k + 1) a0 a1 a2) := by
  intro a0 a1 a2 k r h
  unfold impl_isRup.f at h ⊢
  by_cases hf : (decide (0 ≤ a0) && decide (a0 ≤ 4000) && fitL (a0 + 1).toNat a2 && (a1.all fun c => fitL (a0 + 1).toNat c)) = true
  · rw [if_pos hf] at h ⊢
    generalize assumeL (List.replicate (a0 + 1).toNat 0) a2 = q at h ⊢
    cases q with
    | none => exact h
    | some v =>
      simp only [Option.bind_eq_some_iff] at h ⊢
      obtain ⟨t, ht, h⟩ := h
      exact ⟨t, propL_mono a1 k v [] t ht, h⟩
  · rw [if_neg hf] at h
    cases h
set_option maxHeartbeats 8000000 in
set_option maxRecDepth 100000 in
theorem impl_isRup.calls (k : Nat) (a0_0 : Int) (A0_1 : Option Addr) (c0_1 : Nat) (l0_1 : List (List Int)) (A1 : Option Addr) (c1 : Nat) (l1 : List Int) (r : Bool) (w : World) (hr0_1 : Kd.C (Kd.slice 3 (Kd.int .i64)) w A0_1 l0_1.length l0_1) (hc0_1 : l0_1.length ≤ c0_1) (hr1 : Kd.C (Kd.int .i64) w A1 l1.length l1) (hc1 : l1.length ≤ c1) (h : impl_isRup.f k a0_0 l0_1 l1 = some r) :
    Calls Try.prog 62 #[.agg #[.int .i64 a0_0, .slice A0_1 l0_1.length c0_1], .slice A1 l1.length c1] w fun e w' => e = .returned (.bool r) ∧ Below w.heap.size w w' := by
  unfold impl_isRup.f at h
  by_cases hf : (decide (0 ≤ a0_0) && decide (a0_0 ≤ 4000) && fitL (a0_0 + 1).toNat l1 && (l0_1.all fun c => fitL (a0_0 + 1).toNat c)) = true
  · rw [if_pos hf] at h
    simp only [Bool.and_eq_true, decide_eq_true_eq] at hf
    obtain ⟨⟨⟨h0, h1⟩, hf1⟩, hf2⟩ := hf
    have hu_Cnf := Try.underlying30
    have hB1 : Below w.heap.size w (w.alloc (.cells #[.int .i64 a0_0, .slice A0_1 l0_1.length c0_1] 30)) := (Below.refl _ _).alloc (Nat.le_refl _) _
    have hnew := newState_any a0_0 A0_1 l0_1.length c0_1 (w.alloc (.cells #[.int .i64 a0_0, .slice A0_1 l0_1.length c0_1] 30)) h0 h1
    have hW : (w.alloc (.cells #[.int .i64 a0_0, .slice A0_1 l0_1.length c0_1] 30)).heap[w.heap.size]? = some (.cells #[.int .i64 a0_0, .slice A0_1 l0_1.length c0_1] 30 (0, 0)) := by
      show (w.heap.push _)[w.heap.size]? = _
      simp
    obtain ⟨vs, hvs⟩ : ∃ vs, List.replicate (a0_0 + 1).toNat (0 : Int) = vs := ⟨_, rfl⟩
    have hvl : vs.length = (a0_0 + 1).toNat := by rw [← hvs]; simp
    rw [hvs] at h hnew
    rw [← hvl] at hf1 hf2
    have hn : vs.length ≤ 4096 := by omega
    have hp : 0 < vs.length := by omega
    clear hvs hvl
    have HC0 := Kd.C_below hr0_1 hB1
    have HC1 := Aside0.mk (Kd.C_below hr1 hB1)
    have hmax : l1.length ≤ 9223372036854775807 := Kd.C_max hr1
    have HCX := Aside0.mk HC0
    clear hr0_1 hr1 HC0
    obtain ⟨W1, hW1, BX, HB1⟩ : ∃ W1, w.alloc (.cells #[.int .i64 a0_0, .slice A0_1 l0_1.length c0_1] 30) = W1 ∧ W1.heap[w.heap.size]? = some (.cells #[.int .i64 a0_0, .slice A0_1 l0_1.length c0_1] 30 (0, 0)) ∧ Below w.heap.size w W1 := ⟨_, rfl, hW, hB1⟩
    rw [hW1] at hnew HC1 HCX
    have HW1 := Aside0.mk hW1
    have HB1' := Aside0.mk HB1
    have hx0 : W1.cell? ⟨w.heap.size, 0, none⟩ = some (.int .i64 a0_0) := (blk_cell BX 0).trans rfl
    have hx1 : W1.cell? ⟨w.heap.size, 1, none⟩ = some (.slice A0_1 l0_1.length c0_1) := (blk_cell BX 1).trans rfl
    have H' : Aside0 ((match assumeL vs (l1.drop 0) with
      | none => some true
      | some vals => (propL l0_1 k vals []).bind fun t => some (decide (0 ≤ t.2.2))) = some r) := ⟨by rw [List.drop_zero]; exact h⟩
    have HF1 := Aside0.mk hf1
    have HF2 := Aside0.mk hf2
    have HN := Aside0.mk hn
    have HP := Aside0.mk hp
    clear h hW hB1 hW1 BX HB1 hf1 hf2 hn hp
    go_enter Try.func62, Try.ntmps62
    go_upto_region 1 with fail
    rw [HW1.out]
    go_wp2_with (go_at_call 67; refine hnew.mono ?_; rintro e w2 ⟨g, b, cv, rfl, hS⟩)
    clear hx0 hx1 hnew HW1
    have HS := Aside0.mk hS
    have HO := Aside0.mk (And.intro hS.old hS.bold)
    clear hS
    go_loopg [14] l1.length (fun gg v14 wr => ∃ (kk : Nat) (va : List Int), v14 = .int .i64 kk ∧ kk ≤ l1.length ∧ l1.length - kk ≤ gg ∧ va.length = vs.length ∧ Aside0 ((match assumeL va (l1.drop kk) with
      | none => some true
      | some vals => (propL l0_1 k vals []).bind fun t => some (decide (0 ≤ t.2.2))) = some r) ∧ Aside0 (ST W1 wr g b a0_0 A0_1 l0_1.length c0_1 cv va))
    case atStart => exact ⟨0, vs, rfl, Nat.zero_le _, by omega, rfl, H', HS⟩
    case round =>
      clear H' HS
      obtain ⟨kk, va, rfl, hk, hg, hva, HA, HS⟩ := hrel
      by_cases hlt : kk < l1.length
      · have hltz : (kk : Int) < (l1.length : Int) := by omega
        have h0z : (0 : Int) ≤ (kk : Int) := by omega
        obtain ⟨ad, ea, hx⟩ := Kd.at_int HC1.out (kk : Int) h0z hltz
        subst ea
        rw [Int.toNat_natCast] at hx
        have hrd : rd l1 (kk : Int) = l1[kk] := by unfold rd; simp [List.getD, hlt]
        have hA := HA.out
        rw [List.drop_eq_getElem_cons hlt, assumeL, ← hrd] at hA
        have hfx : (rd l1 (kk : Int)).natAbs < vs.length := by rw [hrd]; exact fitL_at HF1.out kk hlt
        have ew : IntKind.i64.wrap ((kk : Int) + 1) = ((kk + 1 : Nat) : Int) := IntWalk.i64_in _ (by omega)
        have hx2 := (HS.out.base.cell (World.block_lt_of_cell? W1 _ hx)).trans hx
        clear hrd HA hx
        generalize rd l1 (kk : Int) = x at hx2 hA hfx
        have ex : IntKind.i64.wrap (-x) = -x := IntWalk.i64_in _ (by have := HN.out; omega)
        have hcall := is_any g va _ cv x wr HS.out.cells.2.2 HS.out.reads (by omega) (by have := HN.out; omega)
        cases ha : isL va x with
        | true =>
          rw [ha, if_pos rfl] at hA
          rw [ha] at hcall
          simp only [Option.some.injEq] at hA
          subst hA
          clear ha hfx
          go_wp2_with (go_at_call 69; refine hcall.mono ?_; rintro e w' ⟨rfl, rfl⟩)
          go_ret
          exact ⟨rfl, HB1'.out.trans (HS.out.base.mono HB1'.out.size)⟩
        | false =>
          rw [ha, if_neg Bool.false_ne_true] at hA
          rw [ha] at hcall
          have H' := Aside0.mk hA
          clear ha hA
          obtain ⟨hcx, hfx2⟩ := Kd.R_celln 0 HS.out.own (x.natAbs : Int) (by omega) (by omega)
          rw [Int.toNat_natCast] at hcx hfx2
          have hxn : (-x).natAbs = x.natAbs := by omega
          have hset := set_any g b va.length cv (-x) _ wr HS.out.cells.2.2 (by omega) (by have := HN.out; omega) (by rw [hxn]; exact hcx) (by rw [hxn]; exact hfx2)
          have HS2 := Aside0.mk (HS.out.set (-x))
          clear hcx hfx2 HS hfx hxn
          generalize wr.setCell ⟨b, (-x).natAbs, none⟩ (.int .i64 (if -x < 0 then -1 else 1)) = wr2 at hset HS2
          go_wp2_with (first
            | (go_at_call 69; refine hcall.mono ?_; rintro e w' ⟨rfl, hq⟩; have hq2 := hq.symm; clear hcall hq; subst hq2)
            | (go_at_call 70; refine hset.mono ?_; rintro e w' ⟨rfl, hq⟩; have hq2 := hq.symm; clear hset hq; subst hq2))
          go_roundg (gk - 1)
          case measure => omega
          case rel => exact ⟨kk + 1, setL va (-x), rfl, by omega, by omega, by rw [setL_length]; exact hva, H', HS2⟩
      · have hA := HA.out
        obtain rfl : kk = l1.length := by omega
        rw [List.drop_length, assumeL] at hA
        simp only [Option.bind_eq_some_iff, Option.some.injEq] at hA
        obtain ⟨⟨v2, li, at_⟩, hpr, rfl⟩ := hA
        have hprop := propagate_any k g b a0_0 A0_1 c0_1 cv l0_1 va v2 li at_ W1 wr HS.out HCX.out (by rw [hva]; exact HF2.out) (by rw [hva]; exact HN.out) (by rw [hva]; exact HP.out) hpr
        clear HA hpr
        go_wp2_with (go_at_call 71; refine hprop.mono ?_; rintro e w3 ⟨v, rfl, -, -, -, -, hb3⟩)
        go_ret
        exact ⟨rfl, HB1'.out.trans (hb3.mono HB1'.out.size)⟩
  · rw [if_neg hf] at h
    cases h

/-! ### impl_Rup: function 22 -/
def impl_Rup.f (k : Nat) (a0_0 : Int) (l0_1 : List (List Int)) (l1 : List Int) : Option (Bool × Int) := if (l1.length : Int) > 4096 then (some (false, 2)) else ((impl_isCnf.f a0_0 l0_1).bind fun t180 => (if t180 = true then ((impl_isClause.f l1 a0_0).bind fun t181 => (if t181 = true then ((impl_isRup.f k a0_0 l0_1 l1).bind fun t182 => (some (t182, 0))) else (some (false, 1)))) else (some (false, 1))))
theorem impl_Rup.mono : ∀ a0 a1 a2 k, LeO (impl_Rup.f k a0 a1 a2) (impl_Rup.f (k + 1) a0 a1 a2) := by
  intro a0 a1 a2 k
  unfold impl_Rup.f
  repeat' first
      | (with_reducible exact impl_isRup.mono _ _ _ _)
      | (with_reducible exact LeO.refl _)
      | (with_reducible exact LeO.none _)
      | (with_reducible refine LeO.ite ?_ ?_)
      | (with_reducible refine LeO.bind ?_ (fun _ => ?_))
      | exact impl_isRup.mono _ _ _ _
      | exact LeO.none _
      | refine LeO.ite ?_ ?_
      | refine LeO.bind ?_ (fun _ => ?_)
set_option maxHeartbeats 8000000 in
set_option maxRecDepth 100000 in
theorem impl_Rup.calls (k : Nat) (a0_0 : Int) (A0_1 : Option Addr) (c0_1 : Nat) (l0_1 : List (List Int)) (A1 : Option Addr) (c1 : Nat) (l1 : List Int) (r1 : Bool) (r2 : Int) (w : World) (hr0_1 : Kd.C (Kd.slice 3 (Kd.int .i64)) w A0_1 l0_1.length l0_1) (hc0_1 : l0_1.length ≤ c0_1) (hr1 : Kd.C (Kd.int .i64) w A1 l1.length l1) (hc1 : l1.length ≤ c1) (h : impl_Rup.f k a0_0 l0_1 l1 = some (r1, r2)) :
    Calls Try.prog 22 #[.agg #[.int .i64 a0_0, .slice A0_1 l0_1.length c0_1], .slice A1 l1.length c1] w fun e w' => e = .returned (.tuple #[.bool r1, .int .i64 r2]) ∧ Below w.heap.size w w' := by
  have hu30 := Try.underlying30
  have HR0_1 := Aside0.mk hr0_1
  have HC0_1 := Aside0.mk hc0_1
  clear hr0_1 hc0_1
  have HR1 := Aside0.mk hr1
  have HC1 := Aside0.mk hc1
  clear hr1 hc1
  have HB := Aside0.mk (Below.refl w.heap.size w)
  have H : (if (l1.length : Int) > 4096 then (some (false, 2)) else ((impl_isCnf.f a0_0 l0_1).bind fun t180 => (if t180 = true then ((impl_isClause.f l1 a0_0).bind fun t181 => (if t181 = true then ((impl_isRup.f k a0_0 l0_1 l1).bind fun t182 => (some (t182, 0))) else (some (false, 1)))) else (some (false, 1))))) = some (r1, r2) := h
  clear h
  by_cases c3 : (l1.length : Int) > 4096
  · rw [if_pos c3] at H
    have c3b0 : decide (4096 < (l1.length : Int)) = true := decide_eq_true c3
    have c3b1 : decide (4096 < l1.length) = true := decide_eq_true (by omega)
    clear c3
    simp only [Option.some.injEq, Prod.mk.injEq] at H
    obtain ⟨rfl, rfl⟩ := H
    go_enter Try.func22, Try.ntmps22
    go_wp2_with (first | ((with_reducible refine gate_dst (N := 2) rfl ?_); refine box_event ?hg (N := 2) ?hd (cs := #[.int .i64 a0_0, .slice A0_1 l0_1.length c0_1]) (t := 30) ?hr ?_; (case hd => rfl); (case hg => rfl); (case hr => first | (go_simp; done) | (go_simp; rfl)); intro gb179 hg w4 hbox hb; have n0_ := Aside0.mk (below_step (by repeat (first | (with_reducible first | exact HB.out | apply below_alloc | apply pw_below_drewN | apply below_drew1) | exact HB.out)) hb); have n1_ := Aside0.mk (hbox); have n2_ := Aside0.mk ((by rw [hg]; exact (below_size (by repeat (first | (with_reducible first | exact HB.out | apply below_alloc | apply pw_below_drewN | apply below_drew1) | exact HB.out))) : w.heap.size ≤ gb179)); have n3_ := Aside0.mk ((by rw [hg]; exact (below_size (by repeat (first | (with_reducible first | exact HB.out | apply below_alloc | apply pw_below_drewN | apply below_drew1) | exact HB.out))) : w.heap.size ≤ gb179)); clear HB; have HB := n0_; have BK179 := n1_; have GW179 := n2_; have GE179 := n3_; clear n0_ n1_ n2_ n3_; clear hb hbox hg))
    go_ret2
    exact ⟨by first | rfl | (simp [errW_none, errW_some] <;> rfl) | (simp [*, errW_none, errW_some] <;> rfl), by repeat (first | (with_reducible first | exact HB.out | apply below_alloc | apply pw_below_drewN | apply below_drew1 | refine below_set ?_ GE179.out) | exact HB.out)⟩
  · rw [if_neg c3] at H
    have c3b0 : decide (4096 < (l1.length : Int)) = false := decide_eq_false c3
    have c3b1 : decide (4096 < l1.length) = false := decide_eq_false (by omega)
    clear c3
    replace H := Option.bind_eq_some_iff.mp H
    obtain ⟨t180, A50, H⟩ := H
    replace H : (if t180 = true then ((impl_isClause.f l1 a0_0).bind fun t181 => (if t181 = true then ((impl_isRup.f k a0_0 l0_1 l1).bind fun t182 => (some (t182, 0))) else (some (false, 1)))) else (some (false, 1))) = some (r1, r2) := H
    have A5 := Aside0.mk A50
    clear A50
    by_cases c6 : t180 = true
    · subst c6
      have H1 : ((impl_isClause.f l1 a0_0).bind fun t181 => (if t181 = true then ((impl_isRup.f k a0_0 l0_1 l1).bind fun t182 => (some (t182, 0))) else (some (false, 1)))) = some (r1, r2) := by rw [if_pos rfl] at H; exact H
      clear H
      have H := H1
      clear H1
      replace H := Option.bind_eq_some_iff.mp H
      obtain ⟨t181, A70, H⟩ := H
      replace H : (if t181 = true then ((impl_isRup.f k a0_0 l0_1 l1).bind fun t182 => (some (t182, 0))) else (some (false, 1))) = some (r1, r2) := H
      have A7 := Aside0.mk A70
      clear A70
      by_cases c8 : t181 = true
      · subst c8
        have H1 : ((impl_isRup.f k a0_0 l0_1 l1).bind fun t182 => (some (t182, 0))) = some (r1, r2) := by rw [if_pos rfl] at H; exact H
        clear H
        have H := H1
        clear H1
        replace H := Option.bind_eq_some_iff.mp H
        obtain ⟨t182, A90, H⟩ := H
        replace H : (some (t182, 0)) = some (r1, r2) := H
        have A9 := Aside0.mk A90
        clear A90
        simp only [Option.some.injEq, Prod.mk.injEq] at H
        obtain ⟨rfl, rfl⟩ := H
        go_enter Try.func22, Try.ntmps22
        go_wp2_with (first | ((with_reducible refine gate_dst (N := 2) rfl ?_); refine box_event ?hg (N := 2) ?hd (cs := #[.int .i64 a0_0, .slice A0_1 l0_1.length c0_1]) (t := 30) ?hr ?_; (case hd => rfl); (case hg => rfl); (case hr => first | (go_simp; done) | (go_simp; rfl)); intro gb179 hg w10 hbox hb; have n0_ := Aside0.mk (below_step (by repeat (first | (with_reducible first | exact HB.out | apply below_alloc | apply pw_below_drewN | apply below_drew1) | exact HB.out)) hb); have n1_ := Aside0.mk (hbox); have n2_ := Aside0.mk ((by rw [hg]; exact (below_size (by repeat (first | (with_reducible first | exact HB.out | apply below_alloc | apply pw_below_drewN | apply below_drew1) | exact HB.out))) : w.heap.size ≤ gb179)); have n3_ := Aside0.mk ((by rw [hg]; exact (below_size (by repeat (first | (with_reducible first | exact HB.out | apply below_alloc | apply pw_below_drewN | apply below_drew1) | exact HB.out))) : w.heap.size ≤ gb179)); clear HB; have HB := n0_; have BK179 := n1_; have GW179 := n2_; have GE179 := n3_; clear n0_ n1_ n2_ n3_; clear hb hbox hg; have hcz11_0 : w10.cell? ⟨gb179, 0, none⟩ = some (.int .i64 a0_0) := (blk_cell BK179.out 0).trans rfl; have hcz11_1 : w10.cell? ⟨gb179, 1, none⟩ = some (.slice A0_1 l0_1.length c0_1) := (blk_cell BK179.out 1).trans rfl; have hfz11_0 := blk_frozen BK179.out 0; have hfz11_1 := blk_frozen BK179.out 1) | ((with_reducible refine gate_callee (f := 54) rfl ?_); refine goesL_ (some 12) rfl rfl Try.func54 (by kernel_rfl) rfl #[.agg #[.int .i64 a0_0, .slice A0_1 l0_1.length c0_1]] rfl (by (try simp only [List.map_toArray, List.map_cons, List.map_nil]); first | done | rfl | (simp only [List.length_drop, List.length_take]; rfl)) ?_; (with_reducible refine (impl_isCnf.calls a0_0 _ _ l0_1 true _ ?side1 ?side2 A5.out).mono ?_); (case side1 => repeat (first | exact (Kd.C_below HR0_1.out HB.out) | (with_reducible refine Kd.C_alloc ?_ _) | (with_reducible refine Kd.C_drewN ?_ _) | (with_reducible refine Kd.C_drew ?_))); (case side2 => exact HC0_1.out); rintro e w12 ⟨rfl, hb⟩; refine ⟨_, rfl, ?_⟩; have n0_ := Aside0.mk (blk_below (g := gb179) (o := .cells #[.int .i64 a0_0, .slice A0_1 l0_1.length c0_1] 30 (0, 0)) (by (with_reducible repeat (first | refine blk_drewN ?_ _ | refine blk_drew ?_ | refine blk_alloc ?_ _)); exact BK179.out) hb); have n1_ := Aside0.mk (below_step (by repeat (first | (with_reducible first | exact HB.out | apply below_alloc | apply pw_below_drewN | apply below_drew1 | refine below_set ?_ GE179.out) | exact HB.out)) hb); clear BK179; clear HB; have BK179 := n0_; have HB := n1_; clear n0_ n1_; (try clear hb); (try clear hb2); (try clear hk); (try clear hi); have hcz13_0 : w12.cell? ⟨gb179, 0, none⟩ = some (.int .i64 a0_0) := (blk_cell BK179.out 0).trans rfl; have hcz13_1 : w12.cell? ⟨gb179, 1, none⟩ = some (.slice A0_1 l0_1.length c0_1) := (blk_cell BK179.out 1).trans rfl; have hfz13_0 := blk_frozen BK179.out 0; have hfz13_1 := blk_frozen BK179.out 1) | (go_at_call 61; (with_reducible refine (impl_isClause.calls _ _ l1 a0_0 true _ ?side1 ?side2 A7.out).mono ?_); (case side1 => repeat (first | exact (Kd.C_below HR1.out HB.out) | (with_reducible refine Kd.C_alloc ?_ _) | (with_reducible refine Kd.C_drewN ?_ _) | (with_reducible refine Kd.C_drew ?_))); (case side2 => exact HC1.out); rintro e w14 ⟨rfl, hb⟩; have n0_ := Aside0.mk (blk_below (g := gb179) (o := .cells #[.int .i64 a0_0, .slice A0_1 l0_1.length c0_1] 30 (0, 0)) (by (with_reducible repeat (first | refine blk_drewN ?_ _ | refine blk_drew ?_ | refine blk_alloc ?_ _)); exact BK179.out) hb); have n1_ := Aside0.mk (below_step (by repeat (first | (with_reducible first | exact HB.out | apply below_alloc | apply pw_below_drewN | apply below_drew1 | refine below_set ?_ GE179.out) | exact HB.out)) hb); clear BK179; clear HB; have BK179 := n0_; have HB := n1_; clear n0_ n1_; (try clear hb); (try clear hb2); (try clear hk); (try clear hi); have hcz15_0 : w14.cell? ⟨gb179, 0, none⟩ = some (.int .i64 a0_0) := (blk_cell BK179.out 0).trans rfl; have hcz15_1 : w14.cell? ⟨gb179, 1, none⟩ = some (.slice A0_1 l0_1.length c0_1) := (blk_cell BK179.out 1).trans rfl; have hfz15_0 := blk_frozen BK179.out 0; have hfz15_1 := blk_frozen BK179.out 1) | ((with_reducible refine gate_callee (f := 62) rfl ?_); refine goesL_ (some 23) rfl rfl Try.func62 (by kernel_rfl) rfl #[.agg #[.int .i64 a0_0, .slice A0_1 l0_1.length c0_1], .slice A1 l1.length c1] rfl (by (try simp only [List.map_toArray, List.map_cons, List.map_nil]); first | done | rfl | (simp only [List.length_drop, List.length_take]; rfl)) ?_; (with_reducible refine (impl_isRup.calls k a0_0 _ _ l0_1 _ _ l1 t182 _ ?side1 ?side2 ?side3 ?side4 A9.out).mono ?_); (case side1 => repeat (first | exact (Kd.C_below HR0_1.out HB.out) | (with_reducible refine Kd.C_alloc ?_ _) | (with_reducible refine Kd.C_drewN ?_ _) | (with_reducible refine Kd.C_drew ?_))); (case side2 => exact HC0_1.out); (case side3 => repeat (first | exact (Kd.C_below HR1.out HB.out) | (with_reducible refine Kd.C_alloc ?_ _) | (with_reducible refine Kd.C_drewN ?_ _) | (with_reducible refine Kd.C_drew ?_))); (case side4 => exact HC1.out); rintro e w16 ⟨rfl, hb⟩; refine ⟨_, rfl, ?_⟩; have n0_ := Aside0.mk (blk_below (g := gb179) (o := .cells #[.int .i64 a0_0, .slice A0_1 l0_1.length c0_1] 30 (0, 0)) (by (with_reducible repeat (first | refine blk_drewN ?_ _ | refine blk_drew ?_ | refine blk_alloc ?_ _)); exact BK179.out) hb); have n1_ := Aside0.mk (below_step (by repeat (first | (with_reducible first | exact HB.out | apply below_alloc | apply pw_below_drewN | apply below_drew1 | refine below_set ?_ GE179.out) | exact HB.out)) hb); clear BK179; clear HB; have BK179 := n0_; have HB := n1_; clear n0_ n1_; (try clear hb); (try clear hb2); (try clear hk); (try clear hi)))
        go_ret2
        exact ⟨by first | rfl | (simp [errW_none, errW_some] <;> rfl) | (simp [*, errW_none, errW_some] <;> rfl), by repeat (first | (with_reducible first | exact HB.out | apply below_alloc | apply pw_below_drewN | apply below_drew1 | refine below_set ?_ GE179.out) | exact HB.out)⟩
      · replace c8 := Bool.eq_false_iff.mpr c8
        subst c8
        have H1 : (some (false, 1)) = some (r1, r2) := by rw [if_neg (show ¬ (false = true) by decide)] at H; exact H
        clear H
        have H := H1
        clear H1
        simp only [Option.some.injEq, Prod.mk.injEq] at H
        obtain ⟨rfl, rfl⟩ := H
        go_enter Try.func22, Try.ntmps22
        go_wp2_with (first | ((with_reducible refine gate_dst (N := 2) rfl ?_); refine box_event ?hg (N := 2) ?hd (cs := #[.int .i64 a0_0, .slice A0_1 l0_1.length c0_1]) (t := 30) ?hr ?_; (case hd => rfl); (case hg => rfl); (case hr => first | (go_simp; done) | (go_simp; rfl)); intro gb179 hg w17 hbox hb; have n0_ := Aside0.mk (below_step (by repeat (first | (with_reducible first | exact HB.out | apply below_alloc | apply pw_below_drewN | apply below_drew1) | exact HB.out)) hb); have n1_ := Aside0.mk (hbox); have n2_ := Aside0.mk ((by rw [hg]; exact (below_size (by repeat (first | (with_reducible first | exact HB.out | apply below_alloc | apply pw_below_drewN | apply below_drew1) | exact HB.out))) : w.heap.size ≤ gb179)); have n3_ := Aside0.mk ((by rw [hg]; exact (below_size (by repeat (first | (with_reducible first | exact HB.out | apply below_alloc | apply pw_below_drewN | apply below_drew1) | exact HB.out))) : w.heap.size ≤ gb179)); clear HB; have HB := n0_; have BK179 := n1_; have GW179 := n2_; have GE179 := n3_; clear n0_ n1_ n2_ n3_; clear hb hbox hg; have hcz18_0 : w17.cell? ⟨gb179, 0, none⟩ = some (.int .i64 a0_0) := (blk_cell BK179.out 0).trans rfl; have hcz18_1 : w17.cell? ⟨gb179, 1, none⟩ = some (.slice A0_1 l0_1.length c0_1) := (blk_cell BK179.out 1).trans rfl; have hfz18_0 := blk_frozen BK179.out 0; have hfz18_1 := blk_frozen BK179.out 1) | ((with_reducible refine gate_callee (f := 54) rfl ?_); refine goesL_ (some 12) rfl rfl Try.func54 (by kernel_rfl) rfl #[.agg #[.int .i64 a0_0, .slice A0_1 l0_1.length c0_1]] rfl (by (try simp only [List.map_toArray, List.map_cons, List.map_nil]); first | done | rfl | (simp only [List.length_drop, List.length_take]; rfl)) ?_; (with_reducible refine (impl_isCnf.calls a0_0 _ _ l0_1 true _ ?side1 ?side2 A5.out).mono ?_); (case side1 => repeat (first | exact (Kd.C_below HR0_1.out HB.out) | (with_reducible refine Kd.C_alloc ?_ _) | (with_reducible refine Kd.C_drewN ?_ _) | (with_reducible refine Kd.C_drew ?_))); (case side2 => exact HC0_1.out); rintro e w19 ⟨rfl, hb⟩; refine ⟨_, rfl, ?_⟩; have n0_ := Aside0.mk (blk_below (g := gb179) (o := .cells #[.int .i64 a0_0, .slice A0_1 l0_1.length c0_1] 30 (0, 0)) (by (with_reducible repeat (first | refine blk_drewN ?_ _ | refine blk_drew ?_ | refine blk_alloc ?_ _)); exact BK179.out) hb); have n1_ := Aside0.mk (below_step (by repeat (first | (with_reducible first | exact HB.out | apply below_alloc | apply pw_below_drewN | apply below_drew1 | refine below_set ?_ GE179.out) | exact HB.out)) hb); clear BK179; clear HB; have BK179 := n0_; have HB := n1_; clear n0_ n1_; (try clear hb); (try clear hb2); (try clear hk); (try clear hi); have hcz20_0 : w19.cell? ⟨gb179, 0, none⟩ = some (.int .i64 a0_0) := (blk_cell BK179.out 0).trans rfl; have hcz20_1 : w19.cell? ⟨gb179, 1, none⟩ = some (.slice A0_1 l0_1.length c0_1) := (blk_cell BK179.out 1).trans rfl; have hfz20_0 := blk_frozen BK179.out 0; have hfz20_1 := blk_frozen BK179.out 1) | (go_at_call 61; (with_reducible refine (impl_isClause.calls _ _ l1 a0_0 false _ ?side1 ?side2 A7.out).mono ?_); (case side1 => repeat (first | exact (Kd.C_below HR1.out HB.out) | (with_reducible refine Kd.C_alloc ?_ _) | (with_reducible refine Kd.C_drewN ?_ _) | (with_reducible refine Kd.C_drew ?_))); (case side2 => exact HC1.out); rintro e w21 ⟨rfl, hb⟩; have n0_ := Aside0.mk (blk_below (g := gb179) (o := .cells #[.int .i64 a0_0, .slice A0_1 l0_1.length c0_1] 30 (0, 0)) (by (with_reducible repeat (first | refine blk_drewN ?_ _ | refine blk_drew ?_ | refine blk_alloc ?_ _)); exact BK179.out) hb); have n1_ := Aside0.mk (below_step (by repeat (first | (with_reducible first | exact HB.out | apply below_alloc | apply pw_below_drewN | apply below_drew1 | refine below_set ?_ GE179.out) | exact HB.out)) hb); clear BK179; clear HB; have BK179 := n0_; have HB := n1_; clear n0_ n1_; (try clear hb); (try clear hb2); (try clear hk); (try clear hi)))
        go_ret2
        exact ⟨by first | rfl | (simp [errW_none, errW_some] <;> rfl) | (simp [*, errW_none, errW_some] <;> rfl), by repeat (first | (with_reducible first | exact HB.out | apply below_alloc | apply pw_below_drewN | apply below_drew1 | refine below_set ?_ GE179.out) | exact HB.out)⟩
    · replace c6 := Bool.eq_false_iff.mpr c6
      subst c6
      have H1 : (some (false, 1)) = some (r1, r2) := by rw [if_neg (show ¬ (false = true) by decide)] at H; exact H
      clear H
      have H := H1
      clear H1
      simp only [Option.some.injEq, Prod.mk.injEq] at H
      obtain ⟨rfl, rfl⟩ := H
      go_enter Try.func22, Try.ntmps22
      go_wp2_with (first | ((with_reducible refine gate_dst (N := 2) rfl ?_); refine box_event ?hg (N := 2) ?hd (cs := #[.int .i64 a0_0, .slice A0_1 l0_1.length c0_1]) (t := 30) ?hr ?_; (case hd => rfl); (case hg => rfl); (case hr => first | (go_simp; done) | (go_simp; rfl)); intro gb179 hg w22 hbox hb; have n0_ := Aside0.mk (below_step (by repeat (first | (with_reducible first | exact HB.out | apply below_alloc | apply pw_below_drewN | apply below_drew1) | exact HB.out)) hb); have n1_ := Aside0.mk (hbox); have n2_ := Aside0.mk ((by rw [hg]; exact (below_size (by repeat (first | (with_reducible first | exact HB.out | apply below_alloc | apply pw_below_drewN | apply below_drew1) | exact HB.out))) : w.heap.size ≤ gb179)); have n3_ := Aside0.mk ((by rw [hg]; exact (below_size (by repeat (first | (with_reducible first | exact HB.out | apply below_alloc | apply pw_below_drewN | apply below_drew1) | exact HB.out))) : w.heap.size ≤ gb179)); clear HB; have HB := n0_; have BK179 := n1_; have GW179 := n2_; have GE179 := n3_; clear n0_ n1_ n2_ n3_; clear hb hbox hg; have hcz23_0 : w22.cell? ⟨gb179, 0, none⟩ = some (.int .i64 a0_0) := (blk_cell BK179.out 0).trans rfl; have hcz23_1 : w22.cell? ⟨gb179, 1, none⟩ = some (.slice A0_1 l0_1.length c0_1) := (blk_cell BK179.out 1).trans rfl; have hfz23_0 := blk_frozen BK179.out 0; have hfz23_1 := blk_frozen BK179.out 1) | ((with_reducible refine gate_callee (f := 54) rfl ?_); refine goesL_ (some 12) rfl rfl Try.func54 (by kernel_rfl) rfl #[.agg #[.int .i64 a0_0, .slice A0_1 l0_1.length c0_1]] rfl (by (try simp only [List.map_toArray, List.map_cons, List.map_nil]); first | done | rfl | (simp only [List.length_drop, List.length_take]; rfl)) ?_; (with_reducible refine (impl_isCnf.calls a0_0 _ _ l0_1 false _ ?side1 ?side2 A5.out).mono ?_); (case side1 => repeat (first | exact (Kd.C_below HR0_1.out HB.out) | (with_reducible refine Kd.C_alloc ?_ _) | (with_reducible refine Kd.C_drewN ?_ _) | (with_reducible refine Kd.C_drew ?_))); (case side2 => exact HC0_1.out); rintro e w24 ⟨rfl, hb⟩; refine ⟨_, rfl, ?_⟩; have n0_ := Aside0.mk (blk_below (g := gb179) (o := .cells #[.int .i64 a0_0, .slice A0_1 l0_1.length c0_1] 30 (0, 0)) (by (with_reducible repeat (first | refine blk_drewN ?_ _ | refine blk_drew ?_ | refine blk_alloc ?_ _)); exact BK179.out) hb); have n1_ := Aside0.mk (below_step (by repeat (first | (with_reducible first | exact HB.out | apply below_alloc | apply pw_below_drewN | apply below_drew1 | refine below_set ?_ GE179.out) | exact HB.out)) hb); clear BK179; clear HB; have BK179 := n0_; have HB := n1_; clear n0_ n1_; (try clear hb); (try clear hb2); (try clear hk); (try clear hi)))
      go_ret2
      exact ⟨by first | rfl | (simp [errW_none, errW_some] <;> rfl) | (simp [*, errW_none, errW_some] <;> rfl), by repeat (first | (with_reducible first | exact HB.out | apply below_alloc | apply pw_below_drewN | apply below_drew1 | refine below_set ?_ GE179.out) | exact HB.out)⟩

end Go.Proofs.Ytelfahcjeldliaa.PFnExactRup
