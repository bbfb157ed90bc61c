/- WRITTEN BY A PROGRAM OF THIS SESSION (wip/xprint) OVER THE KIT's PRINT, FOR THIS CLAIM: for Go functions that the law reaches, one Lean function each and the proof that Go's call comes to its answer. No conditions but those that each theorem names. -/
import Derived.Test.YtcmkkoggdcjceaaPFnExactAtMostExx0
import Derived.Test.YtcmkkoggdcjceaaPFnExactAtMostExx2
import Derived.Test.YtcmkkoggdcjceaaPFnExactAtMostExx3
namespace Go.Proofs.Ytcmkkoggdcjceaa.PFnExactAtMostEx
open Go.RowKit Go.Proofs.YtcmkkoggdcjceaaW.PrintWords Go.Proofs.YtcmkkoggdcjceaaW.PrintLast Go.Proofs.YtcmkkoggdcjceaaW.PrintMore
attribute [local go_sem] max2_int min2_int max_two min_two max_three min_three max_four min_four   -- for this text's walks alone
set_option linter.unusedVariables false
set_option linter.unusedSimpArgs false

/-! ### spec_l04Right: function 112 -/
mutual
/-- whether an expression's nodes are right, their count and depth aside -/
def rightE : S31 → Bool
  | ⟨kind, n, kids⟩ => ((kids.length : Int) == kidsM kind) && (numB kind n && rightEs kids)
def rightEs : List (S31) → Bool
  | [] => true
  | x :: r => rightE x && rightEs r
end
theorem rightEs_all (l : List (S31)) : rightEs l = l.all rightE := by
  induction l with
  | nil => rfl
  | cons x r ih => rw [rightEs, List.all_cons, ih]
theorem rightEs_true (l : List (S31)) (h : ∀ j : Nat, j < l.length → rightE (rd_T31 l (j : Int)) = true) : rightEs l = true := by
  rw [rightEs_all, List.all_eq_true]
  intro x hx
  obtain ⟨j, hj, rfl⟩ := List.getElem_of_mem hx
  have hr : rd_T31 l (j : Int) = l[j] := by unfold rd_T31; simp [List.getD, hj]
  rw [← hr]
  exact h j hj
theorem rightEs_false (l : List (S31)) (j : Nat) (hj : j < l.length) (h : rightE (rd_T31 l (j : Int)) = false) : rightEs l = false := by
  have hr : rd_T31 l (j : Int) = l[j] := by unfold rd_T31; simp [List.getD, hj]
  rw [hr] at h
  cases hb : rightEs l with
  | false => rfl
  | true =>
    rw [rightEs_all, List.all_eq_true] at hb
    rw [hb _ (List.getElem_mem hj)] at h
    cases h
set_option maxHeartbeats 4000000 in
theorem l01In_any (a lo hi : Int) (w : World) : Calls Try.prog 76 #[.int .i64 a, .int .i64 lo, .int .i64 hi] w fun e w' => e = .returned (.bool (decide (lo ≤ a) && decide (a ≤ hi))) ∧ w = w' := by
  by_cases h : lo ≤ a
  · rw [decide_eq_true h, Bool.true_and]
    go_enter Try.func76, Try.ntmps76
    go_wp2
    go_ret
    exact ⟨rfl, rfl⟩
  · rw [decide_eq_false h, Bool.false_and]
    go_enter Try.func76, Try.ntmps76
    go_wp2
    go_ret
    exact ⟨rfl, rfl⟩
/-- what a call of l04Right does -/
def SaidR (x : S31) : Prop := ∀ (A2 : Option Addr) (c2 : Nat) (w : World), Kd.C k31 w A2 x.f2.length x.f2 → x.f2.length ≤ c2 →
  Calls Try.prog 112 #[.agg #[.int .i64 x.f0, .int .i64 x.f1, .slice A2 x.f2.length c2]] w fun e w' => e = .returned (.bool (rightE x)) ∧ Below w.heap.size w w'
theorem sz_kidR {kind n : Int} {kids : List (S31)} {d : Nat} (h : SizeOf.sizeOf (⟨kind, n, kids⟩ : S31) < d + 1) (i : Nat) (hi : i < kids.length) : SizeOf.sizeOf (rd_T31 kids (i : Int)) < d := by
  have hr : rd_T31 kids (i : Int) = kids[i] := by unfold rd_T31; simp [List.getD, hi]
  rw [hr]
  have := List.sizeOf_lt_of_mem (List.getElem_mem hi)
  simp at h
  omega
theorem right_leaf {kind n : Int} {kids : List (S31)} (h : kidsM kind = 0) : rightE ⟨kind, n, kids⟩ = (numB kind n && ((kids.length : Int) == 0)) := by
  rw [rightE, h]
  cases kids with
  | nil => simp [rightEs]
  | cons x r =>
    rw [beq_false_of_ne (by simp; omega), Bool.false_and, Bool.and_false]
set_option maxHeartbeats 4000000 in
set_option maxRecDepth 100000 in
theorem right_calls : ∀ (d : Nat) (x : S31), SizeOf.sizeOf x < d → SaidR x := by
  intro d
  induction d with
  | zero => exact fun x h => absurd h (Nat.not_lt_zero _)
  | succ d ih =>
    intro x hxd A2 c2 w hr hc
    obtain ⟨kind, n, kids⟩ := x
    have hkids : ∀ i : Nat, i < kids.length → SaidR (rd_T31 kids (i : Int)) := fun i hi => ih _ (sz_kidR hxd i hi)
    have hB : Below w.heap.size w (w.alloc (.cells #[.int .i64 kind, .int .i64 n, .slice A2 kids.length c2] 31)) := (Below.refl _ _).alloc (Nat.le_refl _) _
    have H := Aside0.mk (And.intro hr (And.intro hc (And.intro hB hkids)))
    clear hr hc hxd ih hkids hB
    by_cases k1 : kind = 1
    · subst k1
      have hright := Aside0.mk (@right_leaf 1 n kids (by decide))
      cases hn : numB 1 n with
      | false =>
        have hn' : (decide (0 ≤ n) && decide (n ≤ 11)) = false := hn
        have hres : rightE ⟨1, n, kids⟩ = false := by rw [hright.out, hn]; rfl
        clear hn
        rw [hres]
        have hin := l01In_any n 0 11
        rw [hn'] at hin
        clear hn' hres
        go_enter Try.func112, Try.ntmps112
        go_wp2_with (go_at_call 76; refine (hin _).mono ?_; rintro e w' ⟨rfl, rfl⟩)
        go_ret
        exact ⟨rfl, H.out.2.2.1⟩
      | true =>
        have hn' : (decide (0 ≤ n) && decide (n ≤ 11)) = true := hn
        have hres : rightE ⟨1, n, kids⟩ = ((kids.length : Int) == 0) := by rw [hright.out, hn, Bool.true_and]
        clear hn
        rw [hres]
        have hin := l01In_any n 0 11
        rw [hn'] at hin
        clear hn' hres
        go_enter Try.func112, Try.ntmps112
        go_wp2_with (go_at_call 76; refine (hin _).mono ?_; rintro e w' ⟨rfl, rfl⟩)
        go_ret
        exact ⟨rfl, H.out.2.2.1⟩
    by_cases k2 : kind = 2
    · subst k2
      have hright := Aside0.mk (@right_leaf 2 n kids (by decide))
      cases hn : numB 2 n with
      | false =>
        have hn' : (decide (0 ≤ n) && decide (n ≤ 1)) = false := hn
        have hres : rightE ⟨2, n, kids⟩ = false := by rw [hright.out, hn]; rfl
        clear hn
        rw [hres]
        have hin := l01In_any n 0 1
        rw [hn'] at hin
        clear hn' hres
        go_enter Try.func112, Try.ntmps112
        go_wp2_with (go_at_call 76; refine (hin _).mono ?_; rintro e w' ⟨rfl, rfl⟩)
        go_ret
        exact ⟨rfl, H.out.2.2.1⟩
      | true =>
        have hn' : (decide (0 ≤ n) && decide (n ≤ 1)) = true := hn
        have hres : rightE ⟨2, n, kids⟩ = ((kids.length : Int) == 0) := by rw [hright.out, hn, Bool.true_and]
        clear hn
        rw [hres]
        have hin := l01In_any n 0 1
        rw [hn'] at hin
        clear hn' hres
        go_enter Try.func112, Try.ntmps112
        go_wp2_with (go_at_call 76; refine (hin _).mono ?_; rintro e w' ⟨rfl, rfl⟩)
        go_ret
        exact ⟨rfl, H.out.2.2.1⟩
    by_cases kk3 : kind = 3
    · subst kk3
      by_cases hn : n = 0
      · subst hn
        by_cases hm : (kids.length : Int) = 1
        · have hres : rightE ⟨3, 0, kids⟩ = rightEs kids := by rw [rightE, hm]; rfl
          rw [hres]
          clear hres
          go_enter Try.func112, Try.ntmps112
          go_wp2_with fail
          go_loopw [4] (fun i wr => ∃ k : Nat, k ≤ 1 ∧ i = .int .i64 k ∧ Aside0 (∀ j : Nat, j < k → rightE (rd_T31 kids (j : Int)) = true) ∧ Aside0 (Below (w.alloc (.cells #[.int .i64 3, .int .i64 0, .slice A2 kids.length c2] 31)).heap.size (w.alloc (.cells #[.int .i64 3, .int .i64 0, .slice A2 kids.length c2] 31)) wr)) (fun i _ => 1 - (intOf i).toNat)
          case atStart => exact ⟨0, by omega, rfl, ⟨fun j hj => absurd hj (Nat.not_lt_zero _)⟩, ⟨Below.refl _ _⟩⟩
          case round =>
            obtain ⟨k, hk, rfl, HA, HW⟩ := hrel
            by_cases hlt : k < 1
            · have hltz : (k : Int) < 1 := by omega
              have hltl : (k : Int) < (kids.length : Int) := by omega
              have hkl : k < kids.length := by omega
              obtain ⟨q1, q2, q3, q4⟩ := H.out
              have hd := Kd.C_below (Kd.C_below q1 q3) HW.out
              have hx2 : wr.cell? ⟨w.heap.size, 2, none⟩ = some (.slice A2 kids.length c2) := (HW.out.cell (p := ⟨w.heap.size, 2, none⟩) (by simp [World.alloc_eq])).trans (by go_simp)
              obtain ⟨ad, A4, c4, ea, hy0, hy1, hy2, hl4, hd4⟩ := at_T31 hd (k : Int) (by omega) hltl
              cases ea
              rw [Int.toNat_natCast] at hy0 hy1 hy2
              have hcall := q4 k hkl A4 c4 wr hd4 hl4
              clear q1 q2 q3 q4 hd hd4 hl4
              cases hq : rightE (rd_T31 kids (k : Int)) with
              | false =>
                rw [hq] at hcall
                have HF := Aside0.mk (rightEs_false kids k hkl hq)
                clear hq
                go_wp2_with (go_at_call 112; refine hcall.mono ?_; rintro e w' ⟨rfl, hb⟩)
                go_ret
                rw [HF.out]
                exact ⟨rfl, H.out.2.2.1.trans ((HW.out.trans (hb.mono HW.out.size)).mono H.out.2.2.1.size)⟩
              | true =>
                rw [hq] at hcall
                have HT := Aside0.mk hq
                clear hq
                go_wp2_with (go_at_call 112; refine hcall.mono ?_; rintro e w' ⟨rfl, hb⟩)
                go_roundw
                case rel =>
                  refine ⟨k + 1, by omega, by go_num, ⟨fun j hj => ?_⟩, ⟨HW.out.trans (hb.mono HW.out.size)⟩⟩
                  by_cases e : j = k
                  · subst e
                    exact HT.out
                  · exact HA.out j (by omega)
                case measure => simp [intOf]; omega
            · have hk' : k = 1 := by omega
              subst hk'
              have HE := Aside0.mk (rightEs_true kids (fun j hj => HA.out j (by omega)))
              go_wp2
              go_ret
              rw [HE.out]
              exact ⟨rfl, H.out.2.2.1.trans (HW.out.mono H.out.2.2.1.size)⟩
        · have hres : rightE ⟨3, 0, kids⟩ = false := by rw [rightE, show kidsM 3 = 1 from rfl, beq_false_of_ne hm]; rfl
          rw [hres]
          clear hres
          go_enter Try.func112, Try.ntmps112
          go_wp2
          go_ret
          exact ⟨rfl, H.out.2.2.1⟩
      · have hres : rightE ⟨3, n, kids⟩ = false := by rw [rightE, show numB 3 n = (n == 0) from rfl, beq_false_of_ne hn, Bool.false_and, Bool.and_false]
        rw [hres]
        clear hres
        go_enter Try.func112, Try.ntmps112
        go_wp2
        go_ret
        exact ⟨rfl, H.out.2.2.1⟩
    by_cases kk4 : kind = 4
    · subst kk4
      by_cases hn : n = 0
      · subst hn
        by_cases hm : (kids.length : Int) = 2
        · have hres : rightE ⟨4, 0, kids⟩ = rightEs kids := by rw [rightE, hm]; rfl
          rw [hres]
          clear hres
          go_enter Try.func112, Try.ntmps112
          go_wp2_with fail
          go_loopw [4] (fun i wr => ∃ k : Nat, k ≤ 2 ∧ i = .int .i64 k ∧ Aside0 (∀ j : Nat, j < k → rightE (rd_T31 kids (j : Int)) = true) ∧ Aside0 (Below (w.alloc (.cells #[.int .i64 4, .int .i64 0, .slice A2 kids.length c2] 31)).heap.size (w.alloc (.cells #[.int .i64 4, .int .i64 0, .slice A2 kids.length c2] 31)) wr)) (fun i _ => 2 - (intOf i).toNat)
          case atStart => exact ⟨0, by omega, rfl, ⟨fun j hj => absurd hj (Nat.not_lt_zero _)⟩, ⟨Below.refl _ _⟩⟩
          case round =>
            obtain ⟨k, hk, rfl, HA, HW⟩ := hrel
            by_cases hlt : k < 2
            · have hltz : (k : Int) < 2 := by omega
              have hltl : (k : Int) < (kids.length : Int) := by omega
              have hkl : k < kids.length := by omega
              obtain ⟨q1, q2, q3, q4⟩ := H.out
              have hd := Kd.C_below (Kd.C_below q1 q3) HW.out
              have hx2 : wr.cell? ⟨w.heap.size, 2, none⟩ = some (.slice A2 kids.length c2) := (HW.out.cell (p := ⟨w.heap.size, 2, none⟩) (by simp [World.alloc_eq])).trans (by go_simp)
              obtain ⟨ad, A4, c4, ea, hy0, hy1, hy2, hl4, hd4⟩ := at_T31 hd (k : Int) (by omega) hltl
              cases ea
              rw [Int.toNat_natCast] at hy0 hy1 hy2
              have hcall := q4 k hkl A4 c4 wr hd4 hl4
              clear q1 q2 q3 q4 hd hd4 hl4
              cases hq : rightE (rd_T31 kids (k : Int)) with
              | false =>
                rw [hq] at hcall
                have HF := Aside0.mk (rightEs_false kids k hkl hq)
                clear hq
                go_wp2_with (go_at_call 112; refine hcall.mono ?_; rintro e w' ⟨rfl, hb⟩)
                go_ret
                rw [HF.out]
                exact ⟨rfl, H.out.2.2.1.trans ((HW.out.trans (hb.mono HW.out.size)).mono H.out.2.2.1.size)⟩
              | true =>
                rw [hq] at hcall
                have HT := Aside0.mk hq
                clear hq
                go_wp2_with (go_at_call 112; refine hcall.mono ?_; rintro e w' ⟨rfl, hb⟩)
                go_roundw
                case rel =>
                  refine ⟨k + 1, by omega, by go_num, ⟨fun j hj => ?_⟩, ⟨HW.out.trans (hb.mono HW.out.size)⟩⟩
                  by_cases e : j = k
                  · subst e
                    exact HT.out
                  · exact HA.out j (by omega)
                case measure => simp [intOf]; omega
            · have hk' : k = 2 := by omega
              subst hk'
              have HE := Aside0.mk (rightEs_true kids (fun j hj => HA.out j (by omega)))
              go_wp2
              go_ret
              rw [HE.out]
              exact ⟨rfl, H.out.2.2.1.trans (HW.out.mono H.out.2.2.1.size)⟩
        · have hres : rightE ⟨4, 0, kids⟩ = false := by rw [rightE, show kidsM 4 = 2 from rfl, beq_false_of_ne hm]; rfl
          rw [hres]
          clear hres
          go_enter Try.func112, Try.ntmps112
          go_wp2
          go_ret
          exact ⟨rfl, H.out.2.2.1⟩
      · have hres : rightE ⟨4, n, kids⟩ = false := by rw [rightE, show numB 4 n = (n == 0) from rfl, beq_false_of_ne hn, Bool.false_and, Bool.and_false]
        rw [hres]
        clear hres
        go_enter Try.func112, Try.ntmps112
        go_wp2
        go_ret
        exact ⟨rfl, H.out.2.2.1⟩
    by_cases k5 : kind = 5
    · subst k5
      by_cases hn : n = 0
      · subst hn
        by_cases hm : (kids.length : Int) = 2
        · have hres : rightE ⟨5, 0, kids⟩ = rightEs kids := by rw [rightE, hm]; rfl
          rw [hres]
          clear hres
          go_enter Try.func112, Try.ntmps112
          go_wp2_with fail
          go_loopw [4] (fun i wr => ∃ k : Nat, k ≤ 2 ∧ i = .int .i64 k ∧ Aside0 (∀ j : Nat, j < k → rightE (rd_T31 kids (j : Int)) = true) ∧ Aside0 (Below (w.alloc (.cells #[.int .i64 5, .int .i64 0, .slice A2 kids.length c2] 31)).heap.size (w.alloc (.cells #[.int .i64 5, .int .i64 0, .slice A2 kids.length c2] 31)) wr)) (fun i _ => 2 - (intOf i).toNat)
          case atStart => exact ⟨0, by omega, rfl, ⟨fun j hj => absurd hj (Nat.not_lt_zero _)⟩, ⟨Below.refl _ _⟩⟩
          case round =>
            obtain ⟨k, hk, rfl, HA, HW⟩ := hrel
            by_cases hlt : k < 2
            · have hltz : (k : Int) < 2 := by omega
              have hltl : (k : Int) < (kids.length : Int) := by omega
              have hkl : k < kids.length := by omega
              obtain ⟨q1, q2, q3, q4⟩ := H.out
              have hd := Kd.C_below (Kd.C_below q1 q3) HW.out
              have hx2 : wr.cell? ⟨w.heap.size, 2, none⟩ = some (.slice A2 kids.length c2) := (HW.out.cell (p := ⟨w.heap.size, 2, none⟩) (by simp [World.alloc_eq])).trans (by go_simp)
              obtain ⟨ad, A4, c4, ea, hy0, hy1, hy2, hl4, hd4⟩ := at_T31 hd (k : Int) (by omega) hltl
              cases ea
              rw [Int.toNat_natCast] at hy0 hy1 hy2
              have hcall := q4 k hkl A4 c4 wr hd4 hl4
              clear q1 q2 q3 q4 hd hd4 hl4
              cases hq : rightE (rd_T31 kids (k : Int)) with
              | false =>
                rw [hq] at hcall
                have HF := Aside0.mk (rightEs_false kids k hkl hq)
                clear hq
                go_wp2_with (go_at_call 112; refine hcall.mono ?_; rintro e w' ⟨rfl, hb⟩)
                go_ret
                rw [HF.out]
                exact ⟨rfl, H.out.2.2.1.trans ((HW.out.trans (hb.mono HW.out.size)).mono H.out.2.2.1.size)⟩
              | true =>
                rw [hq] at hcall
                have HT := Aside0.mk hq
                clear hq
                go_wp2_with (go_at_call 112; refine hcall.mono ?_; rintro e w' ⟨rfl, hb⟩)
                go_roundw
                case rel =>
                  refine ⟨k + 1, by omega, by go_num, ⟨fun j hj => ?_⟩, ⟨HW.out.trans (hb.mono HW.out.size)⟩⟩
                  by_cases e : j = k
                  · subst e
                    exact HT.out
                  · exact HA.out j (by omega)
                case measure => simp [intOf]; omega
            · have hk' : k = 2 := by omega
              subst hk'
              have HE := Aside0.mk (rightEs_true kids (fun j hj => HA.out j (by omega)))
              go_wp2
              go_ret
              rw [HE.out]
              exact ⟨rfl, H.out.2.2.1.trans (HW.out.mono H.out.2.2.1.size)⟩
        · have hres : rightE ⟨5, 0, kids⟩ = false := by rw [rightE, show kidsM 5 = 2 from rfl, beq_false_of_ne hm]; rfl
          rw [hres]
          clear hres
          go_enter Try.func112, Try.ntmps112
          go_wp2
          go_ret
          exact ⟨rfl, H.out.2.2.1⟩
      · have hres : rightE ⟨5, n, kids⟩ = false := by rw [rightE, show numB 5 n = (n == 0) from rfl, beq_false_of_ne hn, Bool.false_and, Bool.and_false]
        rw [hres]
        clear hres
        go_enter Try.func112, Try.ntmps112
        go_wp2
        go_ret
        exact ⟨rfl, H.out.2.2.1⟩
    by_cases k6 : kind = 6
    · subst k6
      by_cases hn : n = 0
      · subst hn
        by_cases hm : (kids.length : Int) = 2
        · have hres : rightE ⟨6, 0, kids⟩ = rightEs kids := by rw [rightE, hm]; rfl
          rw [hres]
          clear hres
          go_enter Try.func112, Try.ntmps112
          go_wp2_with fail
          go_loopw [4] (fun i wr => ∃ k : Nat, k ≤ 2 ∧ i = .int .i64 k ∧ Aside0 (∀ j : Nat, j < k → rightE (rd_T31 kids (j : Int)) = true) ∧ Aside0 (Below (w.alloc (.cells #[.int .i64 6, .int .i64 0, .slice A2 kids.length c2] 31)).heap.size (w.alloc (.cells #[.int .i64 6, .int .i64 0, .slice A2 kids.length c2] 31)) wr)) (fun i _ => 2 - (intOf i).toNat)
          case atStart => exact ⟨0, by omega, rfl, ⟨fun j hj => absurd hj (Nat.not_lt_zero _)⟩, ⟨Below.refl _ _⟩⟩
          case round =>
            obtain ⟨k, hk, rfl, HA, HW⟩ := hrel
            by_cases hlt : k < 2
            · have hltz : (k : Int) < 2 := by omega
              have hltl : (k : Int) < (kids.length : Int) := by omega
              have hkl : k < kids.length := by omega
              obtain ⟨q1, q2, q3, q4⟩ := H.out
              have hd := Kd.C_below (Kd.C_below q1 q3) HW.out
              have hx2 : wr.cell? ⟨w.heap.size, 2, none⟩ = some (.slice A2 kids.length c2) := (HW.out.cell (p := ⟨w.heap.size, 2, none⟩) (by simp [World.alloc_eq])).trans (by go_simp)
              obtain ⟨ad, A4, c4, ea, hy0, hy1, hy2, hl4, hd4⟩ := at_T31 hd (k : Int) (by omega) hltl
              cases ea
              rw [Int.toNat_natCast] at hy0 hy1 hy2
              have hcall := q4 k hkl A4 c4 wr hd4 hl4
              clear q1 q2 q3 q4 hd hd4 hl4
              cases hq : rightE (rd_T31 kids (k : Int)) with
              | false =>
                rw [hq] at hcall
                have HF := Aside0.mk (rightEs_false kids k hkl hq)
                clear hq
                go_wp2_with (go_at_call 112; refine hcall.mono ?_; rintro e w' ⟨rfl, hb⟩)
                go_ret
                rw [HF.out]
                exact ⟨rfl, H.out.2.2.1.trans ((HW.out.trans (hb.mono HW.out.size)).mono H.out.2.2.1.size)⟩
              | true =>
                rw [hq] at hcall
                have HT := Aside0.mk hq
                clear hq
                go_wp2_with (go_at_call 112; refine hcall.mono ?_; rintro e w' ⟨rfl, hb⟩)
                go_roundw
                case rel =>
                  refine ⟨k + 1, by omega, by go_num, ⟨fun j hj => ?_⟩, ⟨HW.out.trans (hb.mono HW.out.size)⟩⟩
                  by_cases e : j = k
                  · subst e
                    exact HT.out
                  · exact HA.out j (by omega)
                case measure => simp [intOf]; omega
            · have hk' : k = 2 := by omega
              subst hk'
              have HE := Aside0.mk (rightEs_true kids (fun j hj => HA.out j (by omega)))
              go_wp2
              go_ret
              rw [HE.out]
              exact ⟨rfl, H.out.2.2.1.trans (HW.out.mono H.out.2.2.1.size)⟩
        · have hres : rightE ⟨6, 0, kids⟩ = false := by rw [rightE, show kidsM 6 = 2 from rfl, beq_false_of_ne hm]; rfl
          rw [hres]
          clear hres
          go_enter Try.func112, Try.ntmps112
          go_wp2
          go_ret
          exact ⟨rfl, H.out.2.2.1⟩
      · have hres : rightE ⟨6, n, kids⟩ = false := by rw [rightE, show numB 6 n = (n == 0) from rfl, beq_false_of_ne hn, Bool.false_and, Bool.and_false]
        rw [hres]
        clear hres
        go_enter Try.func112, Try.ntmps112
        go_wp2
        go_ret
        exact ⟨rfl, H.out.2.2.1⟩
    by_cases k7 : kind = 7
    · subst k7
      by_cases hn : n = 0
      · subst hn
        by_cases hm : (kids.length : Int) = 3
        · have hres : rightE ⟨7, 0, kids⟩ = rightEs kids := by rw [rightE, hm]; rfl
          rw [hres]
          clear hres
          go_enter Try.func112, Try.ntmps112
          go_wp2_with fail
          go_loopw [4] (fun i wr => ∃ k : Nat, k ≤ 3 ∧ i = .int .i64 k ∧ Aside0 (∀ j : Nat, j < k → rightE (rd_T31 kids (j : Int)) = true) ∧ Aside0 (Below (w.alloc (.cells #[.int .i64 7, .int .i64 0, .slice A2 kids.length c2] 31)).heap.size (w.alloc (.cells #[.int .i64 7, .int .i64 0, .slice A2 kids.length c2] 31)) wr)) (fun i _ => 3 - (intOf i).toNat)
          case atStart => exact ⟨0, by omega, rfl, ⟨fun j hj => absurd hj (Nat.not_lt_zero _)⟩, ⟨Below.refl _ _⟩⟩
          case round =>
            obtain ⟨k, hk, rfl, HA, HW⟩ := hrel
            by_cases hlt : k < 3
            · have hltz : (k : Int) < 3 := by omega
              have hltl : (k : Int) < (kids.length : Int) := by omega
              have hkl : k < kids.length := by omega
              obtain ⟨q1, q2, q3, q4⟩ := H.out
              have hd := Kd.C_below (Kd.C_below q1 q3) HW.out
              have hx2 : wr.cell? ⟨w.heap.size, 2, none⟩ = some (.slice A2 kids.length c2) := (HW.out.cell (p := ⟨w.heap.size, 2, none⟩) (by simp [World.alloc_eq])).trans (by go_simp)
              obtain ⟨ad, A4, c4, ea, hy0, hy1, hy2, hl4, hd4⟩ := at_T31 hd (k : Int) (by omega) hltl
              cases ea
              rw [Int.toNat_natCast] at hy0 hy1 hy2
              have hcall := q4 k hkl A4 c4 wr hd4 hl4
              clear q1 q2 q3 q4 hd hd4 hl4
              cases hq : rightE (rd_T31 kids (k : Int)) with
              | false =>
                rw [hq] at hcall
                have HF := Aside0.mk (rightEs_false kids k hkl hq)
                clear hq
                go_wp2_with (go_at_call 112; refine hcall.mono ?_; rintro e w' ⟨rfl, hb⟩)
                go_ret
                rw [HF.out]
                exact ⟨rfl, H.out.2.2.1.trans ((HW.out.trans (hb.mono HW.out.size)).mono H.out.2.2.1.size)⟩
              | true =>
                rw [hq] at hcall
                have HT := Aside0.mk hq
                clear hq
                go_wp2_with (go_at_call 112; refine hcall.mono ?_; rintro e w' ⟨rfl, hb⟩)
                go_roundw
                case rel =>
                  refine ⟨k + 1, by omega, by go_num, ⟨fun j hj => ?_⟩, ⟨HW.out.trans (hb.mono HW.out.size)⟩⟩
                  by_cases e : j = k
                  · subst e
                    exact HT.out
                  · exact HA.out j (by omega)
                case measure => simp [intOf]; omega
            · have hk' : k = 3 := by omega
              subst hk'
              have HE := Aside0.mk (rightEs_true kids (fun j hj => HA.out j (by omega)))
              go_wp2
              go_ret
              rw [HE.out]
              exact ⟨rfl, H.out.2.2.1.trans (HW.out.mono H.out.2.2.1.size)⟩
        · have hres : rightE ⟨7, 0, kids⟩ = false := by rw [rightE, show kidsM 7 = 3 from rfl, beq_false_of_ne hm]; rfl
          rw [hres]
          clear hres
          go_enter Try.func112, Try.ntmps112
          go_wp2
          go_ret
          exact ⟨rfl, H.out.2.2.1⟩
      · have hres : rightE ⟨7, n, kids⟩ = false := by rw [rightE, show numB 7 n = (n == 0) from rfl, beq_false_of_ne hn, Bool.false_and, Bool.and_false]
        rw [hres]
        clear hres
        go_enter Try.func112, Try.ntmps112
        go_wp2
        go_ret
        exact ⟨rfl, H.out.2.2.1⟩
    have hres : rightE ⟨kind, n, kids⟩ = false := by
      rw [rightE, show kidsM kind = -1 by unfold kidsM; rw [if_neg k1, if_neg k2, if_neg kk3, if_neg kk4, if_neg k5, if_neg k6, if_neg k7], beq_false_of_ne (by omega)]
      rfl
    rw [hres]
    clear hres
    go_enter Try.func112, Try.ntmps112
    go_wp2
    go_ret
    exact ⟨rfl, H.out.2.2.1⟩
def spec_l04Right.f (a0_0 a0_1 : Int) (l0_2 : List (S31)) : Option Bool := some (rightE ⟨a0_0, a0_1, l0_2⟩)
theorem spec_l04Right.calls (a0_0 : Int) (a0_1 : Int) (A0_2 : Option Addr) (c0_2 : Nat) (l0_2 : List (S31)) (r : Bool) (w : World) (hr0_2 : Kd.C k31 w A0_2 l0_2.length l0_2) (hc0_2 : l0_2.length ≤ c0_2) (h : spec_l04Right.f a0_0 a0_1 l0_2 = some r) :
    Calls Try.prog 112 #[.agg #[.int .i64 a0_0, .int .i64 a0_1, .slice A0_2 l0_2.length c0_2]] w fun e w' => e = .returned (.bool r) ∧ Below w.heap.size w w' := by
  obtain rfl := Option.some.inj h
  exact right_calls _ ⟨a0_0, a0_1, l0_2⟩ (Nat.lt_succ_self _) A0_2 c0_2 w hr0_2 hc0_2

/-! ### spec_ExOK: function 57 -/
def spec_ExOK.f (k : Nat) (a0_0 : Int) (a0_1 : Int) (l0_2 : List (S31)) : Option (Bool) := (spec_l04Left.f k a0_0 a0_1 l0_2 400 1).bind fun t115 => (if t115 ≥ 0 then ((spec_l04Right.f a0_0 a0_1 l0_2).bind fun t116 => (some t116)) else (some false))
theorem spec_ExOK.mono : ∀ a0 a1 a2 k, LeO (spec_ExOK.f k a0 a1 a2) (spec_ExOK.f (k + 1) a0 a1 a2) := by
  intro a0 a1 a2 k
  unfold spec_ExOK.f
  repeat' first
      | (with_reducible exact spec_l04Left.mono _ _ _ _ _ _)
      | (with_reducible exact LeO.refl _)
      | (with_reducible exact LeO.none _)
      | (with_reducible refine LeO.ite ?_ ?_)
      | (with_reducible refine LeO.bind ?_ (fun _ => ?_))
      | exact spec_l04Left.mono _ _ _ _ _ _
      | exact LeO.none _
      | refine LeO.ite ?_ ?_
      | refine LeO.bind ?_ (fun _ => ?_)
set_option maxHeartbeats 8000000 in
set_option maxRecDepth 100000 in
theorem spec_ExOK.calls (k : Nat) (a0_0 : Int) (a0_1 : Int) (A0_2 : Option Addr) (c0_2 : Nat) (l0_2 : List (S31)) (r : Bool) (w : World) (hr0_2 : Kd.C k31 w A0_2 l0_2.length l0_2) (hc0_2 : l0_2.length ≤ c0_2) (h : spec_ExOK.f k a0_0 a0_1 l0_2 = some r) :
    Calls Try.prog 57 #[.agg #[.int .i64 a0_0, .int .i64 a0_1, .slice A0_2 l0_2.length c0_2]] w fun e w' => e = .returned (.bool r) ∧ Below w.heap.size w w' := by
  have hu31 := Try.underlying31
  have HR0_2 := Aside0.mk hr0_2
  have HC0_2 := Aside0.mk hc0_2
  clear hr0_2 hc0_2
  have HB := Aside0.mk (Below.refl w.heap.size w)
  have H : ((spec_l04Left.f k a0_0 a0_1 l0_2 400 1).bind fun t115 => (if t115 ≥ 0 then ((spec_l04Right.f a0_0 a0_1 l0_2).bind fun t116 => (some t116)) else (some false))) = some r := h
  clear h
  replace H := Option.bind_eq_some_iff.mp H
  obtain ⟨t115, A20, H⟩ := H
  replace H : (if t115 ≥ 0 then ((spec_l04Right.f a0_0 a0_1 l0_2).bind fun t116 => (some t116)) else (some false)) = some r := H
  have A2 := Aside0.mk A20
  clear A20
  by_cases c3 : t115 ≥ 0
  · rw [if_pos c3] at H
    have c3b0 : decide (0 ≤ t115) = true := decide_eq_true c3
    clear c3
    replace H := Option.bind_eq_some_iff.mp H
    obtain ⟨t116, A40, H⟩ := H
    replace H : (some t116) = some r := H
    have A4 := Aside0.mk A40
    clear A40
    obtain rfl := Option.some.inj H
    go_enter Try.func57, Try.ntmps57
    go_wp2_with (first | ((with_reducible refine gate_dst (N := 1) rfl ?_); refine box_event ?hg (N := 1) ?hd (cs := #[.int .i64 a0_0, .int .i64 a0_1, .slice A0_2 l0_2.length c0_2]) (t := 31) ?hr ?_; (case hd => rfl); (case hg => rfl); (case hr => first | (go_simp; done) | (go_simp; rfl)); intro gb114 hg w5 hbox hb; have n0_ := Aside0.mk (below_step (by repeat (first | (with_reducible first | exact HB.out | apply below_alloc | apply pw_below_drewN | apply below_drew1) | exact HB.out)) hb); have n1_ := Aside0.mk (hbox); have n2_ := Aside0.mk ((by rw [hg]; exact (below_size (by repeat (first | (with_reducible first | exact HB.out | apply below_alloc | apply pw_below_drewN | apply below_drew1) | exact HB.out))) : w.heap.size ≤ gb114)); have n3_ := Aside0.mk ((by rw [hg]; exact (below_size (by repeat (first | (with_reducible first | exact HB.out | apply below_alloc | apply pw_below_drewN | apply below_drew1) | exact HB.out))) : w.heap.size ≤ gb114)); clear HB; have HB := n0_; have BK114 := n1_; have GW114 := n2_; have GE114 := n3_; clear n0_ n1_ n2_ n3_; clear hb hbox hg; have hcz6_0 : w5.cell? ⟨gb114, 0, none⟩ = some (.int .i64 a0_0) := (blk_cell BK114.out 0).trans rfl; have hcz6_1 : w5.cell? ⟨gb114, 1, none⟩ = some (.int .i64 a0_1) := (blk_cell BK114.out 1).trans rfl; have hcz6_2 : w5.cell? ⟨gb114, 2, none⟩ = some (.slice A0_2 l0_2.length c0_2) := (blk_cell BK114.out 2).trans rfl; have hfz6_0 := blk_frozen BK114.out 0; have hfz6_1 := blk_frozen BK114.out 1; have hfz6_2 := blk_frozen BK114.out 2) | ((with_reducible refine gate_callee (f := 111) rfl ?_); refine goesL_ (some 4) rfl rfl Try.func111 (by kernel_rfl) rfl #[.agg #[.int .i64 a0_0, .int .i64 a0_1, .slice A0_2 l0_2.length c0_2], .int .i64 400, .int .i64 1] rfl (by (try simp only [List.map_toArray, List.map_cons, List.map_nil]); first | done | rfl | (simp only [List.length_drop, List.length_take]; rfl)) ?_; (with_reducible refine (spec_l04Left.calls k a0_0 a0_1 _ _ l0_2 400 1 t115 _ ?side1 ?side2 A2.out).mono ?_); (case side1 => repeat (first | exact (Kd.C_below HR0_2.out HB.out) | (with_reducible refine Kd.C_alloc ?_ _) | (with_reducible refine Kd.C_drewN ?_ _) | (with_reducible refine Kd.C_drew ?_))); (case side2 => exact HC0_2.out); rintro e w7 ⟨rfl, hb⟩; refine ⟨_, rfl, ?_⟩; have n0_ := Aside0.mk (blk_below (g := gb114) (o := .cells #[.int .i64 a0_0, .int .i64 a0_1, .slice A0_2 l0_2.length c0_2] 31 (0, 0)) (by (with_reducible repeat (first | refine blk_drewN ?_ _ | refine blk_drew ?_ | refine blk_alloc ?_ _)); exact BK114.out) hb); have n1_ := Aside0.mk (below_step (by repeat (first | (with_reducible first | exact HB.out | apply below_alloc | apply pw_below_drewN | apply below_drew1 | refine below_set ?_ GE114.out) | exact HB.out)) hb); clear BK114; clear HB; have BK114 := n0_; have HB := n1_; clear n0_ n1_; (try clear hb); (try clear hb2); (try clear hk); (try clear hi); have hcz8_0 : w7.cell? ⟨gb114, 0, none⟩ = some (.int .i64 a0_0) := (blk_cell BK114.out 0).trans rfl; have hcz8_1 : w7.cell? ⟨gb114, 1, none⟩ = some (.int .i64 a0_1) := (blk_cell BK114.out 1).trans rfl; have hcz8_2 : w7.cell? ⟨gb114, 2, none⟩ = some (.slice A0_2 l0_2.length c0_2) := (blk_cell BK114.out 2).trans rfl; have hfz8_0 := blk_frozen BK114.out 0; have hfz8_1 := blk_frozen BK114.out 1; have hfz8_2 := blk_frozen BK114.out 2) | (go_at_call 112; (with_reducible refine (spec_l04Right.calls a0_0 a0_1 _ _ l0_2 t116 _ ?side1 ?side2 A4.out).mono ?_); (case side1 => repeat (first | exact (Kd.C_below HR0_2.out HB.out) | (with_reducible refine Kd.C_alloc ?_ _) | (with_reducible refine Kd.C_drewN ?_ _) | (with_reducible refine Kd.C_drew ?_))); (case side2 => exact HC0_2.out); rintro e w9 ⟨rfl, hb⟩; have n0_ := Aside0.mk (blk_below (g := gb114) (o := .cells #[.int .i64 a0_0, .int .i64 a0_1, .slice A0_2 l0_2.length c0_2] 31 (0, 0)) (by (with_reducible repeat (first | refine blk_drewN ?_ _ | refine blk_drew ?_ | refine blk_alloc ?_ _)); exact BK114.out) hb); have n1_ := Aside0.mk (below_step (by repeat (first | (with_reducible first | exact HB.out | apply below_alloc | apply pw_below_drewN | apply below_drew1 | refine below_set ?_ GE114.out) | exact HB.out)) hb); clear BK114; clear HB; have BK114 := n0_; have HB := n1_; clear n0_ n1_; (try clear hb); (try clear hb2); (try clear hk); (try clear hi)))
    go_ret
    exact ⟨by first | rfl | (simp [errW_none, errW_some] <;> rfl) | (simp [*, errW_none, errW_some] <;> rfl), by repeat (first | (with_reducible first | exact HB.out | apply below_alloc | apply pw_below_drewN | apply below_drew1 | refine below_set ?_ GE114.out) | exact HB.out)⟩
  · rw [if_neg c3] at H
    have c3b0 : decide (0 ≤ t115) = false := decide_eq_false c3
    clear c3
    obtain rfl := Option.some.inj H
    go_enter Try.func57, Try.ntmps57
    go_wp2_with (first | ((with_reducible refine gate_dst (N := 1) rfl ?_); refine box_event ?hg (N := 1) ?hd (cs := #[.int .i64 a0_0, .int .i64 a0_1, .slice A0_2 l0_2.length c0_2]) (t := 31) ?hr ?_; (case hd => rfl); (case hg => rfl); (case hr => first | (go_simp; done) | (go_simp; rfl)); intro gb114 hg w10 hbox hb; have n0_ := Aside0.mk (below_step (by repeat (first | (with_reducible first | exact HB.out | apply below_alloc | apply pw_below_drewN | apply below_drew1) | exact HB.out)) hb); have n1_ := Aside0.mk (hbox); have n2_ := Aside0.mk ((by rw [hg]; exact (below_size (by repeat (first | (with_reducible first | exact HB.out | apply below_alloc | apply pw_below_drewN | apply below_drew1) | exact HB.out))) : w.heap.size ≤ gb114)); have n3_ := Aside0.mk ((by rw [hg]; exact (below_size (by repeat (first | (with_reducible first | exact HB.out | apply below_alloc | apply pw_below_drewN | apply below_drew1) | exact HB.out))) : w.heap.size ≤ gb114)); clear HB; have HB := n0_; have BK114 := n1_; have GW114 := n2_; have GE114 := n3_; clear n0_ n1_ n2_ n3_; clear hb hbox hg; have hcz11_0 : w10.cell? ⟨gb114, 0, none⟩ = some (.int .i64 a0_0) := (blk_cell BK114.out 0).trans rfl; have hcz11_1 : w10.cell? ⟨gb114, 1, none⟩ = some (.int .i64 a0_1) := (blk_cell BK114.out 1).trans rfl; have hcz11_2 : w10.cell? ⟨gb114, 2, none⟩ = some (.slice A0_2 l0_2.length c0_2) := (blk_cell BK114.out 2).trans rfl; have hfz11_0 := blk_frozen BK114.out 0; have hfz11_1 := blk_frozen BK114.out 1; have hfz11_2 := blk_frozen BK114.out 2) | ((with_reducible refine gate_callee (f := 111) rfl ?_); refine goesL_ (some 4) rfl rfl Try.func111 (by kernel_rfl) rfl #[.agg #[.int .i64 a0_0, .int .i64 a0_1, .slice A0_2 l0_2.length c0_2], .int .i64 400, .int .i64 1] rfl (by (try simp only [List.map_toArray, List.map_cons, List.map_nil]); first | done | rfl | (simp only [List.length_drop, List.length_take]; rfl)) ?_; (with_reducible refine (spec_l04Left.calls k a0_0 a0_1 _ _ l0_2 400 1 t115 _ ?side1 ?side2 A2.out).mono ?_); (case side1 => repeat (first | exact (Kd.C_below HR0_2.out HB.out) | (with_reducible refine Kd.C_alloc ?_ _) | (with_reducible refine Kd.C_drewN ?_ _) | (with_reducible refine Kd.C_drew ?_))); (case side2 => exact HC0_2.out); rintro e w12 ⟨rfl, hb⟩; refine ⟨_, rfl, ?_⟩; have n0_ := Aside0.mk (blk_below (g := gb114) (o := .cells #[.int .i64 a0_0, .int .i64 a0_1, .slice A0_2 l0_2.length c0_2] 31 (0, 0)) (by (with_reducible repeat (first | refine blk_drewN ?_ _ | refine blk_drew ?_ | refine blk_alloc ?_ _)); exact BK114.out) hb); have n1_ := Aside0.mk (below_step (by repeat (first | (with_reducible first | exact HB.out | apply below_alloc | apply pw_below_drewN | apply below_drew1 | refine below_set ?_ GE114.out) | exact HB.out)) hb); clear BK114; clear HB; have BK114 := n0_; have HB := n1_; clear n0_ n1_; (try clear hb); (try clear hb2); (try clear hk); (try clear hi)))
    go_ret
    exact ⟨by first | rfl | (simp [errW_none, errW_some] <;> rfl) | (simp [*, errW_none, errW_some] <;> rfl), by repeat (first | (with_reducible first | exact HB.out | apply below_alloc | apply pw_below_drewN | apply below_drew1 | refine below_set ?_ GE114.out) | exact HB.out)⟩

/-! ### spec_l05Fits: function 77 -/
def spec_l05Fits.l0 : Nat → List (S31) → Int → Option (Bool)
  | 0, _, _ => none
  | k + 1, x0, x3 => if x3 < (x0.length : Int) then (if 0 ≤ x3 then ((spec_ExOK.f k ((rd_T31 x0 x3).f0) ((rd_T31 x0 x3).f1) ((rd_T31 x0 x3).f2)).bind fun t118 => (if t118 = true then (spec_l05Fits.l0 k x0 (wrap64 (x3 + 1))) else (some false))) else (none)) else (some true)
def spec_l05Fits.f (k : Nat) (l0 : List (S31)) : Option (Bool) := spec_l05Fits.l0 k l0 0
theorem spec_l05Fits.mono_l : ∀ k, (∀ y0 y1, LeO (spec_l05Fits.l0 k y0 y1) (spec_l05Fits.l0 (k + 1) y0 y1))
  | 0 => fun _ _ r h => by simp [spec_l05Fits.l0] at h
  | k + 1 => by
    have ih0 := spec_l05Fits.mono_l k
    · intro y0 y1
      unfold spec_l05Fits.l0
      repeat' first
      | (with_reducible exact ih0 _ _)
      | (with_reducible exact spec_ExOK.mono _ _ _ _)
      | (with_reducible exact LeO.refl _)
      | (with_reducible exact LeO.none _)
      | (with_reducible refine LeO.ite ?_ ?_)
      | (with_reducible refine LeO.bind ?_ (fun _ => ?_))
      | exact ih0 _ _
      | exact spec_ExOK.mono _ _ _ _
      | exact LeO.none _
      | refine LeO.ite ?_ ?_
      | refine LeO.bind ?_ (fun _ => ?_)
theorem spec_l05Fits.mono : ∀ a0 k, LeO (spec_l05Fits.f k a0) (spec_l05Fits.f (k + 1) a0) := by
  intro a0 k
  have ih0 := spec_l05Fits.mono_l k
  unfold spec_l05Fits.f
  repeat' first
      | (with_reducible exact ih0 _ _)
      | (with_reducible exact spec_ExOK.mono _ _ _ _)
      | (with_reducible exact LeO.refl _)
      | (with_reducible exact LeO.none _)
      | (with_reducible refine LeO.ite ?_ ?_)
      | (with_reducible refine LeO.bind ?_ (fun _ => ?_))
      | exact ih0 _ _
      | exact spec_ExOK.mono _ _ _ _
      | exact LeO.none _
      | refine LeO.ite ?_ ?_
      | refine LeO.bind ?_ (fun _ => ?_)
set_option maxHeartbeats 8000000 in
set_option maxRecDepth 100000 in
theorem spec_l05Fits.calls (k : Nat) (A0 : Option Addr) (c0 : Nat) (l0 : List (S31)) (r : Bool) (w : World) (hr0 : Kd.C k31 w A0 l0.length l0) (hc0 : l0.length ≤ c0) (h : spec_l05Fits.f k l0 = some r) :
    Calls Try.prog 77 #[.slice A0 l0.length c0] w fun e w' => e = .returned (.bool r) ∧ Below w.heap.size w w' := by
  have hu31 := Try.underlying31
  have HR0 := Aside0.mk hr0
  have HC0 := Aside0.mk hc0
  clear hr0 hc0
  have HB := Aside0.mk (Below.refl w.heap.size w)
  have H : (spec_l05Fits.l0 k l0 0) = some r := h
  clear h
  have H' := Aside0.mk H
  clear H
  go_enter Try.func77, Try.ntmps77
  go_wp2
  go_loopg [3] k (fun kq v3 w' => ∃ (x3_1 : Int), v3 = .int .i64 x3_1 ∧ Aside0 (spec_l05Fits.l0 kq l0 x3_1 = some r) ∧ Aside0 (kq ≤ k) ∧ Aside0 (Below w.heap.size w w'))
  case atStart => exact ⟨(0), (by first | rfl | (simp; done) | (simp [*]; done)), H', ⟨Nat.le_refl _⟩, ⟨by repeat (first | (with_reducible first | exact HB.out | apply below_alloc | apply pw_below_drewN | apply below_drew1) | exact HB.out)⟩⟩
  case round =>
    clear H'
    obtain ⟨x3_1, rfl, HA, HK1, HB⟩ := hrel
    cases gk with
    | zero => exact absurd HA.out (by simp [spec_l05Fits.l0])
    | succ k1 =>
      have H := HA.out
      clear HA
      simp only [spec_l05Fits.l0] at H
      by_cases c2 : x3_1 < (l0.length : Int)
      · rw [if_pos c2] at H
        have c2b0 : decide (x3_1 < (l0.length : Int)) = true := decide_eq_true c2
        clear c2
        by_cases c3 : 0 ≤ x3_1
        · rw [if_pos c3] at H
          have c3b0 : decide (0 ≤ x3_1) = true := decide_eq_true c3
          clear c3
          replace H := Option.bind_eq_some_iff.mp H
          obtain ⟨t118, A40, H⟩ := H
          replace H : (if t118 = true then (spec_l05Fits.l0 k1 l0 (wrap64 (x3_1 + 1))) else (some false)) = some r := H
          have A4 := Aside0.mk A40
          clear A40
          by_cases c5 : t118 = true
          · subst c5
            have H1 : (spec_l05Fits.l0 k1 l0 (wrap64 (x3_1 + 1))) = some r := by rw [if_pos rfl] at H; exact H
            clear H
            have H := H1
            clear H1
            have H' := Aside0.mk H
            clear H
            have p117 : 0 ≤ (x3_1 : Int) := of_decide_eq_true (by first | (with_reducible assumption) | assumption)
            have q117 : x3_1 < (l0.length : Int) := of_decide_eq_true (by first | (with_reducible assumption) | assumption)
            obtain ⟨ad117, A117_2, c117_2, e117, hx117_0, hx117_1, hx117_2, hl117_2, hi117_2⟩ := at_T31 HR0.out x3_1 p117 q117
            cases e117
            replace hx117_0 := (HB.out.cell (World.block_lt_of_cell? w _ hx117_0)).trans hx117_0
            replace hx117_1 := (HB.out.cell (World.block_lt_of_cell? w _ hx117_1)).trans hx117_1
            replace hx117_2 := (HB.out.cell (World.block_lt_of_cell? w _ hx117_2)).trans hx117_2
            have HR117_2 := Aside0.mk hi117_2
            have HC117_2 := Aside0.mk hl117_2
            clear hi117_2 hl117_2
            replace p117 := eq_true p117
            replace q117 := eq_true q117
            go_wp2_with (first | ((with_reducible refine gate_callee (f := 57) rfl ?_); refine goesL_ (some 14) rfl rfl Try.func57 (by kernel_rfl) rfl #[.agg #[.int .i64 ((rd_T31 l0 x3_1).f0), .int .i64 ((rd_T31 l0 x3_1).f1), .slice A117_2 ((rd_T31 l0 x3_1).f2).length c117_2]] rfl (by (try simp only [List.map_toArray, List.map_cons, List.map_nil]); first | done | rfl | (simp only [List.length_drop, List.length_take]; rfl)) ?_; (with_reducible refine (spec_ExOK.calls k1 ((rd_T31 l0 x3_1).f0) ((rd_T31 l0 x3_1).f1) _ _ ((rd_T31 l0 x3_1).f2) true _ ?side1 ?side2 A4.out).mono ?_); (case side1 => repeat (first | exact (Kd.C_below HR117_2.out HB.out) | (with_reducible refine Kd.C_alloc ?_ _) | (with_reducible refine Kd.C_drewN ?_ _) | (with_reducible refine Kd.C_drew ?_))); (case side2 => exact HC117_2.out); rintro e w6 ⟨rfl, hb⟩; refine ⟨_, rfl, ?_⟩; have n0_ := Aside0.mk (below_step (by repeat (first | (with_reducible first | exact HB.out | apply below_alloc | apply pw_below_drewN | apply below_drew1) | exact HB.out)) hb); clear HB; have HB := n0_; clear n0_; (try clear hb); (try clear hb2); (try clear hk); (try clear hi)))
            go_roundg k1
            case measure => have := HK1.out; omega
            case rel => exact ⟨(wrap64 (x3_1 + 1)), (by first | rfl | (simp; done) | (simp [*]; done)), H', ⟨by have := HK1.out; omega⟩, ⟨by repeat (first | (with_reducible first | exact HB.out | apply below_alloc | apply pw_below_drewN | apply below_drew1) | exact HB.out)⟩⟩
          · replace c5 := Bool.eq_false_iff.mpr c5
            subst c5
            have H1 : (some false) = some r := by rw [if_neg (show ¬ (false = true) by decide)] at H; exact H
            clear H
            have H := H1
            clear H1
            obtain rfl := Option.some.inj H
            have p117 : 0 ≤ (x3_1 : Int) := of_decide_eq_true (by first | (with_reducible assumption) | assumption)
            have q117 : x3_1 < (l0.length : Int) := of_decide_eq_true (by first | (with_reducible assumption) | assumption)
            obtain ⟨ad117, A117_2, c117_2, e117, hx117_0, hx117_1, hx117_2, hl117_2, hi117_2⟩ := at_T31 HR0.out x3_1 p117 q117
            cases e117
            replace hx117_0 := (HB.out.cell (World.block_lt_of_cell? w _ hx117_0)).trans hx117_0
            replace hx117_1 := (HB.out.cell (World.block_lt_of_cell? w _ hx117_1)).trans hx117_1
            replace hx117_2 := (HB.out.cell (World.block_lt_of_cell? w _ hx117_2)).trans hx117_2
            have HR117_2 := Aside0.mk hi117_2
            have HC117_2 := Aside0.mk hl117_2
            clear hi117_2 hl117_2
            replace p117 := eq_true p117
            replace q117 := eq_true q117
            go_wp2_with (first | ((with_reducible refine gate_callee (f := 57) rfl ?_); refine goesL_ (some 14) rfl rfl Try.func57 (by kernel_rfl) rfl #[.agg #[.int .i64 ((rd_T31 l0 x3_1).f0), .int .i64 ((rd_T31 l0 x3_1).f1), .slice A117_2 ((rd_T31 l0 x3_1).f2).length c117_2]] rfl (by (try simp only [List.map_toArray, List.map_cons, List.map_nil]); first | done | rfl | (simp only [List.length_drop, List.length_take]; rfl)) ?_; (with_reducible refine (spec_ExOK.calls k1 ((rd_T31 l0 x3_1).f0) ((rd_T31 l0 x3_1).f1) _ _ ((rd_T31 l0 x3_1).f2) false _ ?side1 ?side2 A4.out).mono ?_); (case side1 => repeat (first | exact (Kd.C_below HR117_2.out HB.out) | (with_reducible refine Kd.C_alloc ?_ _) | (with_reducible refine Kd.C_drewN ?_ _) | (with_reducible refine Kd.C_drew ?_))); (case side2 => exact HC117_2.out); rintro e w7 ⟨rfl, hb⟩; refine ⟨_, rfl, ?_⟩; have n0_ := Aside0.mk (below_step (by repeat (first | (with_reducible first | exact HB.out | apply below_alloc | apply pw_below_drewN | apply below_drew1) | exact HB.out)) hb); clear HB; have HB := n0_; clear n0_; (try clear hb); (try clear hb2); (try clear hk); (try clear hi)))
            go_ret
            exact ⟨by first | rfl | (simp [errW_none, errW_some] <;> rfl) | (simp [*, errW_none, errW_some] <;> rfl), by repeat (first | (with_reducible first | exact HB.out | apply below_alloc | apply pw_below_drewN | apply below_drew1) | exact HB.out)⟩
        · rw [if_neg c3] at H
          exact absurd H (by simp)
      · rw [if_neg c2] at H
        have c2b0 : decide (x3_1 < (l0.length : Int)) = false := decide_eq_false c2
        clear c2
        obtain rfl := Option.some.inj H
        go_wp2
        go_ret
        exact ⟨by first | rfl | (simp [errW_none, errW_some] <;> rfl) | (simp [*, errW_none, errW_some] <;> rfl), by repeat (first | (with_reducible first | exact HB.out | apply below_alloc | apply pw_below_drewN | apply below_drew1) | exact HB.out)⟩

/-! ### spec_l05Ex: function 85 -/
def spec_l05Ex.f (a0 : Int) (l1 : List (S31)) : Option (Int × Int × (List (S31))) := some (a0, 0, l1)
set_option maxHeartbeats 8000000 in
set_option maxRecDepth 100000 in
theorem spec_l05Ex.calls (a0 : Int) (P1_ : Nat → Prop) (A1 : Option Addr) (c1 : Nat) (l1 : List (S31)) (r1 : Int) (r2 : Int) (r3 : List (S31)) (w : World) (hs1 : Kd.V k31 31 w w.heap.size (fun k_ => P1_ k_) (.slice A1 l1.length c1) l1) (h : spec_l05Ex.f a0 l1 = some (r1, r2, r3)) :
    Calls Try.prog 85 #[.int .i64 a0, .slice A1 l1.length c1] w fun e w' => ∃ v2_ : Value, e = .returned (.agg #[.int .i64 r1, .int .i64 r2, v2_]) ∧ Kd.V k31 31 w' w.heap.size (fun k_ => (P1_ k_ ∨ w.heap.size ≤ k_)) v2_ r3 ∧ Below w.heap.size w w' := by
  have hu31 := Try.underlying31
  have HO1 := Aside0.mk (show Kd.V k31 31 w w.heap.size (fun k_ => (P1_ k_ ∨ w.heap.size ≤ k_)) (.slice A1 l1.length c1) l1 from Kd.V_mono hs1 (fun k_ hk => .inl hk))
  have HB := Aside0.mk (Below.refl w.heap.size w)
  have H : (some (a0, 0, l1)) = some (r1, r2, r3) := h
  clear h
  simp only [Option.some.injEq, Prod.mk.injEq] at H
  obtain ⟨rfl, rfl, rfl⟩ := H
  go_enter Try.func85, Try.ntmps85
  go_wp2_with (first | ((with_reducible refine gate_dst (N := 4) rfl ?_); refine box_event ?hg (N := 4) ?hd (cs := #[.int .i64 0, .int .i64 0, .slice none 0 0]) (t := 31) ?hr ?_; (case hd => rfl); (case hg => rfl); (case hr => first | (go_simp; done) | (go_simp; rfl)); intro gb119 hg w3 hbox hb; have n0_ := Aside0.mk (Kd.V_below (Kd.V_elderB (by (with_reducible repeat (first | apply Kd.V_alloc | apply Kd.V_drewN | apply Kd.V_drew)); exact HO1.out) gb119 (Nat.le_of_eq hg.symm)) hb); have n1_ := Aside0.mk (below_step (by repeat (first | (with_reducible first | exact HB.out | apply below_alloc | apply pw_below_drewN | apply below_drew1) | exact HB.out)) hb); have n2_ := Aside0.mk (hbox); have n3_ := Aside0.mk ((by rw [hg]; exact (below_size (by repeat (first | (with_reducible first | exact HB.out | apply below_alloc | apply pw_below_drewN | apply below_drew1) | exact HB.out))) : w.heap.size ≤ gb119)); have n4_ := Aside0.mk ((by rw [hg]; exact (below_size (by repeat (first | (with_reducible first | exact HB.out | apply below_alloc | apply pw_below_drewN | apply below_drew1) | exact HB.out))) : w.heap.size ≤ gb119)); clear HO1; clear HB; have HO1 := n0_; have HB := n1_; have BK119 := n2_; have GW119 := n3_; have GE119 := n4_; clear n0_ n1_ n2_ n3_ n4_; clear hb hbox hg; have hcz4_0 : w3.cell? ⟨gb119, 0, none⟩ = some (.int .i64 0) := (blk_cell BK119.out 0).trans rfl; have hcz4_1 : w3.cell? ⟨gb119, 1, none⟩ = some (.int .i64 0) := (blk_cell BK119.out 1).trans rfl; have hcz4_2 : w3.cell? ⟨gb119, 2, none⟩ = some (.slice none 0 0) := (blk_cell BK119.out 2).trans rfl; have hfz4_0 := blk_frozen BK119.out 0; have hfz4_1 := blk_frozen BK119.out 1; have hfz4_2 := blk_frozen BK119.out 2))
  refine bodyPost_ret (results_cell_row rfl _ _ gb119 31 #[.int .i64 a0, .int .i64 0, .slice A1 l1.length c1] (0, 0) _ rfl (by (with_reducible repeat (first | refine blk_drewN ?_ _ | refine blk_drew ?_ | refine blk_alloc ?_ _)); refine blk_put (cs := #[.int .i64 a0, .int .i64 0, .slice none 0 0]) ?_ 2 _ rfl; (with_reducible repeat (first | refine blk_drewN ?_ _ | refine blk_drew ?_ | refine blk_alloc ?_ _)); refine blk_put (cs := #[.int .i64 a0, .int .i64 0, .slice none 0 0]) ?_ 1 _ rfl; (with_reducible repeat (first | refine blk_drewN ?_ _ | refine blk_drew ?_ | refine blk_alloc ?_ _)); refine blk_put (cs := #[.int .i64 0, .int .i64 0, .slice none 0 0]) ?_ 0 _ rfl; (with_reducible repeat (first | refine blk_drewN ?_ _ | refine blk_drew ?_ | refine blk_alloc ?_ _)); exact BK119.out) Try.underlying31 rfl (by kernel_rfl)) rfl ?_
  exact ⟨_, by first | rfl | (simp [errW_none, errW_some] <;> rfl) | (simp [*, errW_none, errW_some] <;> rfl), by (with_reducible repeat (first | apply Kd.V_alloc | apply Kd.V_drewN | apply Kd.V_drew)); exact Kd.V_mono (Kd.V_far (p := ⟨gb119, 2, none⟩) (Kd.V_far (p := ⟨gb119, 1, none⟩) (Kd.V_far (p := ⟨gb119, 0, none⟩) (Kd.V_mono HO1.out (fun k_ hk => (⟨hk, hk.2⟩ : _ ∧ k_ ≠ gb119))) (fun _ hk => hk.2) (.int .i64 a0)) (fun _ hk => hk.2) (.int .i64 0)) (fun _ hk => hk.2) (.slice A1 l1.length c1)) (fun _ hk => hk.1.1), by repeat (first | (with_reducible first | exact HB.out | apply below_alloc | apply pw_below_drewN | apply below_drew1 | refine below_set ?_ GE119.out) | exact HB.out)⟩

end Go.Proofs.Ytcmkkoggdcjceaa.PFnExactAtMostEx
