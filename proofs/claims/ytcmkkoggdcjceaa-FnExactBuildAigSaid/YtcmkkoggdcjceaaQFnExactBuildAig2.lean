/- FnExactBuildAig: for every input the law returns true. The texts that this program's session printed and proved for it, those that the proof uses, laid together. Conditions: the form's own reach alone. -/
import Derived.Test.YtcmkkoggdcjceaaQFnExactBuildAig1
section
namespace Go.Proofs.Ytcmkkoggdcjceaa.PFnExactBuildAig
open Go.RowKit Go.Proofs.YtcmkkoggdcjceaaW.PrintWords Go.Proofs.YtcmkkoggdcjceaaW.PrintLast Go.Proofs.YtcmkkoggdcjceaaW.PrintMore
attribute [local go_sem] max2_int min2_int max_two min_two max_three min_three max_four min_four   -- for this text's walks alone
set_option linter.unusedVariables false
set_option linter.unusedSimpArgs false
mutual
/-- whether an expression's nodes are right, their count and depth aside -/
def rightE : S31 → Bool
 | ⟨kind, n, kids⟩ => ((kids.length : Int) == kidsM kind) && (numB kind n && rightEs kids)
def rightEs : List (S31) → Bool
 | [] => true
 | x :: r => rightE x && rightEs r
end
theorem rightEs_all (l : List (S31)) : rightEs l = l.all rightE := by
 induction l with
 | nil => rfl
 | cons x r ih => rw [rightEs, List.all_cons, ih]
theorem rightEs_true (l : List (S31)) (h : ∀ j : Nat, j < l.length → rightE (rd_T31 l (j : Int)) = true) : rightEs l = true := by
 rw [rightEs_all, List.all_eq_true]
 intro x hx
 obtain ⟨j, hj, rfl⟩ := List.getElem_of_mem hx
 have hr : rd_T31 l (j : Int) = l[j] := by unfold rd_T31; simp [List.getD, hj]
 rw [← hr]
 exact h j hj
theorem rightEs_false (l : List (S31)) (j : Nat) (hj : j < l.length) (h : rightE (rd_T31 l (j : Int)) = false) : rightEs l = false := by
 have hr : rd_T31 l (j : Int) = l[j] := by unfold rd_T31; simp [List.getD, hj]
 rw [hr] at h
 cases hb : rightEs l with
 | false => rfl
 | true =>
  rw [rightEs_all, List.all_eq_true] at hb
  rw [hb _ (List.getElem_mem hj)] at h
  cases h
set_option maxHeartbeats 4000000 in
theorem l01In_any (a lo hi : Int) (w : World) : Calls Try.prog 76 #[.int .i64 a, .int .i64 lo, .int .i64 hi] w fun e w' => e = .returned (.bool (decide (lo ≤ a) && decide (a ≤ hi))) ∧ w = w' := by
 by_cases h : lo ≤ a
 ·rw [decide_eq_true h, Bool.true_and]
  go_enter Try.func76, Try.ntmps76
  go_wp2
  go_ret
  exact ⟨rfl, rfl⟩
 ·rw [decide_eq_false h, Bool.false_and]
  go_enter Try.func76, Try.ntmps76
  go_wp2
  go_ret
  exact ⟨rfl, rfl⟩
def SaidR (x : S31) : Prop := ∀ (A2 : Option Addr) (c2 : Nat) (w : World), Kd.C k31 w A2 x.f2.length x.f2 → x.f2.length ≤ c2 →
 Calls Try.prog 112 #[.agg #[.int .i64 x.f0, .int .i64 x.f1, .slice A2 x.f2.length c2]] w fun e w' => e = .returned (.bool (rightE x)) ∧ Below w.heap.size w w'
theorem sz_kidR {kind n : Int} {kids : List (S31)} {d : Nat} (h : SizeOf.sizeOf (⟨kind, n, kids⟩ : S31) < d + 1) (i : Nat) (hi : i < kids.length) : SizeOf.sizeOf (rd_T31 kids (i : Int)) < d := by
 have hr : rd_T31 kids (i : Int) = kids[i] := by unfold rd_T31; simp [List.getD, hi]
 rw [hr]
 have := List.sizeOf_lt_of_mem (List.getElem_mem hi)
 simp at h
 omega
theorem right_leaf {kind n : Int} {kids : List (S31)} (h : kidsM kind = 0) : rightE ⟨kind, n, kids⟩ = (numB kind n && ((kids.length : Int) == 0)) := by
 rw [rightE, h]
 cases kids with
 | nil => simp [rightEs]
 | cons x r =>
  rw [beq_false_of_ne (by simp; omega), Bool.false_and, Bool.and_false]
set_option maxHeartbeats 4000000 in
set_option maxRecDepth 100000 in
theorem right_calls : ∀ (d : Nat) (x : S31), SizeOf.sizeOf x < d → SaidR x := by
 intro d
 induction d with
 | zero => exact fun x h => absurd h (Nat.not_lt_zero _)
 | succ d ih =>
  intro x hxd A2 c2 w hr hc
  obtain ⟨kind, n, kids⟩ := x
  have hkids : ∀ i : Nat, i < kids.length → SaidR (rd_T31 kids (i : Int)) := fun i hi => ih _ (sz_kidR hxd i hi)
  have hB : Below w.heap.size w (w.alloc (.cells #[.int .i64 kind, .int .i64 n, .slice A2 kids.length c2] 31)) := (Below.refl _ _).alloc (Nat.le_refl _) _
  have H := Aside0.mk (And.intro hr (And.intro hc (And.intro hB hkids)))
  clear hr hc hxd ih hkids hB
  by_cases k1 : kind = 1
  ·subst k1
   have hright := Aside0.mk (@right_leaf 1 n kids (by decide))
   cases hn : numB 1 n with
   | false =>
    have hn' : (decide (0 ≤ n) && decide (n ≤ 11)) = false := hn
    have hres : rightE ⟨1, n, kids⟩ = false := by rw [hright.out, hn]; rfl
    clear hn
    rw [hres]
    have hin := l01In_any n 0 11
    rw [hn'] at hin
    clear hn' hres
    go_enter Try.func112, Try.ntmps112
    go_wp2_with (go_at_call 76; refine (hin _).mono ?_; rintro e w' ⟨rfl, rfl⟩)
    go_ret
    exact ⟨rfl, H.out.2.2.1⟩
   | true =>
    have hn' : (decide (0 ≤ n) && decide (n ≤ 11)) = true := hn
    have hres : rightE ⟨1, n, kids⟩ = ((kids.length : Int) == 0) := by rw [hright.out, hn, Bool.true_and]
    clear hn
    rw [hres]
    have hin := l01In_any n 0 11
    rw [hn'] at hin
    clear hn' hres
    go_enter Try.func112, Try.ntmps112
    go_wp2_with (go_at_call 76; refine (hin _).mono ?_; rintro e w' ⟨rfl, rfl⟩)
    go_ret
    exact ⟨rfl, H.out.2.2.1⟩
  by_cases k2 : kind = 2
  ·subst k2
   have hright := Aside0.mk (@right_leaf 2 n kids (by decide))
   cases hn : numB 2 n with
   | false =>
    have hn' : (decide (0 ≤ n) && decide (n ≤ 1)) = false := hn
    have hres : rightE ⟨2, n, kids⟩ = false := by rw [hright.out, hn]; rfl
    clear hn
    rw [hres]
    have hin := l01In_any n 0 1
    rw [hn'] at hin
    clear hn' hres
    go_enter Try.func112, Try.ntmps112
    go_wp2_with (go_at_call 76; refine (hin _).mono ?_; rintro e w' ⟨rfl, rfl⟩)
    go_ret
    exact ⟨rfl, H.out.2.2.1⟩
   | true =>
    have hn' : (decide (0 ≤ n) && decide (n ≤ 1)) = true := hn
    have hres : rightE ⟨2, n, kids⟩ = ((kids.length : Int) == 0) := by rw [hright.out, hn, Bool.true_and]
    clear hn
    rw [hres]
    have hin := l01In_any n 0 1
    rw [hn'] at hin
    clear hn' hres
    go_enter Try.func112, Try.ntmps112
    go_wp2_with (go_at_call 76; refine (hin _).mono ?_; rintro e w' ⟨rfl, rfl⟩)
    go_ret
    exact ⟨rfl, H.out.2.2.1⟩
  by_cases kk3 : kind = 3
  ·subst kk3
   by_cases hn : n = 0
   ·subst hn
    by_cases hm : (kids.length : Int) = 1
    ·have hres : rightE ⟨3, 0, kids⟩ = rightEs kids := by rw [rightE, hm]; rfl
     rw [hres]
     clear hres
     go_enter Try.func112, Try.ntmps112
     go_wp2_with fail
     go_loopw [4] (fun i wr => ∃ k : Nat, k ≤ 1 ∧ i = .int .i64 k ∧ Aside0 (∀ j : Nat, j < k → rightE (rd_T31 kids (j : Int)) = true) ∧ Aside0 (Below (w.alloc (.cells #[.int .i64 3, .int .i64 0, .slice A2 kids.length c2] 31)).heap.size (w.alloc (.cells #[.int .i64 3, .int .i64 0, .slice A2 kids.length c2] 31)) wr)) (fun i _ => 1 - (intOf i).toNat)
     case atStart => exact ⟨0, by omega, rfl, ⟨fun j hj => absurd hj (Nat.not_lt_zero _)⟩, ⟨Below.refl _ _⟩⟩
     case round =>
      obtain ⟨k, hk, rfl, HA, HW⟩ := hrel
      by_cases hlt : k < 1
      ·have hltz : (k : Int) < 1 := by omega
       have hltl : (k : Int) < (kids.length : Int) := by omega
       have hkl : k < kids.length := by omega
       obtain ⟨q1, q2, q3, q4⟩ := H.out
       have hd := Kd.C_below (Kd.C_below q1 q3) HW.out
       have hx2 : wr.cell? ⟨w.heap.size, 2, none⟩ = some (.slice A2 kids.length c2) := (HW.out.cell (p := ⟨w.heap.size, 2, none⟩) (by simp [World.alloc_eq])).trans (by go_simp)
       obtain ⟨ad, A4, c4, ea, hy0, hy1, hy2, hl4, hd4⟩ := at_T31 hd (k : Int) (by omega) hltl
       cases ea
       rw [Int.toNat_natCast] at hy0 hy1 hy2
       have hcall := q4 k hkl A4 c4 wr hd4 hl4
       clear q1 q2 q3 q4 hd hd4 hl4
       cases hq : rightE (rd_T31 kids (k : Int)) with
       | false =>
        rw [hq] at hcall
        have HF := Aside0.mk (rightEs_false kids k hkl hq)
        clear hq
        go_wp2_with (go_at_call 112; refine hcall.mono ?_; rintro e w' ⟨rfl, hb⟩)
        go_ret
        rw [HF.out]
        exact ⟨rfl, H.out.2.2.1.trans ((HW.out.trans (hb.mono HW.out.size)).mono H.out.2.2.1.size)⟩
       | true =>
        rw [hq] at hcall
        have HT := Aside0.mk hq
        clear hq
        go_wp2_with (go_at_call 112; refine hcall.mono ?_; rintro e w' ⟨rfl, hb⟩)
        go_roundw
        case rel =>
         refine ⟨k + 1, by omega, by go_num, ⟨fun j hj => ?_⟩, ⟨HW.out.trans (hb.mono HW.out.size)⟩⟩
         by_cases e : j = k
         ·subst e
          exact HT.out
         ·exact HA.out j (by omega)
        case measure => simp [intOf]; omega
      ·have hk' : k = 1 := by omega
       subst hk'
       have HE := Aside0.mk (rightEs_true kids (fun j hj => HA.out j (by omega)))
       go_wp2
       go_ret
       rw [HE.out]
       exact ⟨rfl, H.out.2.2.1.trans (HW.out.mono H.out.2.2.1.size)⟩
    ·have hres : rightE ⟨3, 0, kids⟩ = false := by rw [rightE, show kidsM 3 = 1 from rfl, beq_false_of_ne hm]; rfl
     rw [hres]
     clear hres
     go_enter Try.func112, Try.ntmps112
     go_wp2
     go_ret
     exact ⟨rfl, H.out.2.2.1⟩
   ·have hres : rightE ⟨3, n, kids⟩ = false := by rw [rightE, show numB 3 n = (n == 0) from rfl, beq_false_of_ne hn, Bool.false_and, Bool.and_false]
    rw [hres]
    clear hres
    go_enter Try.func112, Try.ntmps112
    go_wp2
    go_ret
    exact ⟨rfl, H.out.2.2.1⟩
  by_cases kk4 : kind = 4
  ·subst kk4
   by_cases hn : n = 0
   ·subst hn
    by_cases hm : (kids.length : Int) = 2
    ·have hres : rightE ⟨4, 0, kids⟩ = rightEs kids := by rw [rightE, hm]; rfl
     rw [hres]
     clear hres
     go_enter Try.func112, Try.ntmps112
     go_wp2_with fail
     go_loopw [4] (fun i wr => ∃ k : Nat, k ≤ 2 ∧ i = .int .i64 k ∧ Aside0 (∀ j : Nat, j < k → rightE (rd_T31 kids (j : Int)) = true) ∧ Aside0 (Below (w.alloc (.cells #[.int .i64 4, .int .i64 0, .slice A2 kids.length c2] 31)).heap.size (w.alloc (.cells #[.int .i64 4, .int .i64 0, .slice A2 kids.length c2] 31)) wr)) (fun i _ => 2 - (intOf i).toNat)
     case atStart => exact ⟨0, by omega, rfl, ⟨fun j hj => absurd hj (Nat.not_lt_zero _)⟩, ⟨Below.refl _ _⟩⟩
     case round =>
      obtain ⟨k, hk, rfl, HA, HW⟩ := hrel
      by_cases hlt : k < 2
      ·have hltz : (k : Int) < 2 := by omega
       have hltl : (k : Int) < (kids.length : Int) := by omega
       have hkl : k < kids.length := by omega
       obtain ⟨q1, q2, q3, q4⟩ := H.out
       have hd := Kd.C_below (Kd.C_below q1 q3) HW.out
       have hx2 : wr.cell? ⟨w.heap.size, 2, none⟩ = some (.slice A2 kids.length c2) := (HW.out.cell (p := ⟨w.heap.size, 2, none⟩) (by simp [World.alloc_eq])).trans (by go_simp)
       obtain ⟨ad, A4, c4, ea, hy0, hy1, hy2, hl4, hd4⟩ := at_T31 hd (k : Int) (by omega) hltl
       cases ea
       rw [Int.toNat_natCast] at hy0 hy1 hy2
       have hcall := q4 k hkl A4 c4 wr hd4 hl4
       clear q1 q2 q3 q4 hd hd4 hl4
       cases hq : rightE (rd_T31 kids (k : Int)) with
       | false =>
        rw [hq] at hcall
        have HF := Aside0.mk (rightEs_false kids k hkl hq)
        clear hq
        go_wp2_with (go_at_call 112; refine hcall.mono ?_; rintro e w' ⟨rfl, hb⟩)
        go_ret
        rw [HF.out]
        exact ⟨rfl, H.out.2.2.1.trans ((HW.out.trans (hb.mono HW.out.size)).mono H.out.2.2.1.size)⟩
       | true =>
        rw [hq] at hcall
        have HT := Aside0.mk hq
        clear hq
        go_wp2_with (go_at_call 112; refine hcall.mono ?_; rintro e w' ⟨rfl, hb⟩)
        go_roundw
        case rel =>
         refine ⟨k + 1, by omega, by go_num, ⟨fun j hj => ?_⟩, ⟨HW.out.trans (hb.mono HW.out.size)⟩⟩
         by_cases e : j = k
         ·subst e
          exact HT.out
         ·exact HA.out j (by omega)
        case measure => simp [intOf]; omega
      ·have hk' : k = 2 := by omega
       subst hk'
       have HE := Aside0.mk (rightEs_true kids (fun j hj => HA.out j (by omega)))
       go_wp2
       go_ret
       rw [HE.out]
       exact ⟨rfl, H.out.2.2.1.trans (HW.out.mono H.out.2.2.1.size)⟩
    ·have hres : rightE ⟨4, 0, kids⟩ = false := by rw [rightE, show kidsM 4 = 2 from rfl, beq_false_of_ne hm]; rfl
     rw [hres]
     clear hres
     go_enter Try.func112, Try.ntmps112
     go_wp2
     go_ret
     exact ⟨rfl, H.out.2.2.1⟩
   ·have hres : rightE ⟨4, n, kids⟩ = false := by rw [rightE, show numB 4 n = (n == 0) from rfl, beq_false_of_ne hn, Bool.false_and, Bool.and_false]
    rw [hres]
    clear hres
    go_enter Try.func112, Try.ntmps112
    go_wp2
    go_ret
    exact ⟨rfl, H.out.2.2.1⟩
  by_cases k5 : kind = 5
  ·subst k5
   by_cases hn : n = 0
   ·subst hn
    by_cases hm : (kids.length : Int) = 2
    ·have hres : rightE ⟨5, 0, kids⟩ = rightEs kids := by rw [rightE, hm]; rfl
     rw [hres]
     clear hres
     go_enter Try.func112, Try.ntmps112
     go_wp2_with fail
     go_loopw [4] (fun i wr => ∃ k : Nat, k ≤ 2 ∧ i = .int .i64 k ∧ Aside0 (∀ j : Nat, j < k → rightE (rd_T31 kids (j : Int)) = true) ∧ Aside0 (Below (w.alloc (.cells #[.int .i64 5, .int .i64 0, .slice A2 kids.length c2] 31)).heap.size (w.alloc (.cells #[.int .i64 5, .int .i64 0, .slice A2 kids.length c2] 31)) wr)) (fun i _ => 2 - (intOf i).toNat)
     case atStart => exact ⟨0, by omega, rfl, ⟨fun j hj => absurd hj (Nat.not_lt_zero _)⟩, ⟨Below.refl _ _⟩⟩
     case round =>
      obtain ⟨k, hk, rfl, HA, HW⟩ := hrel
      by_cases hlt : k < 2
      ·have hltz : (k : Int) < 2 := by omega
       have hltl : (k : Int) < (kids.length : Int) := by omega
       have hkl : k < kids.length := by omega
       obtain ⟨q1, q2, q3, q4⟩ := H.out
       have hd := Kd.C_below (Kd.C_below q1 q3) HW.out
       have hx2 : wr.cell? ⟨w.heap.size, 2, none⟩ = some (.slice A2 kids.length c2) := (HW.out.cell (p := ⟨w.heap.size, 2, none⟩) (by simp [World.alloc_eq])).trans (by go_simp)
       obtain ⟨ad, A4, c4, ea, hy0, hy1, hy2, hl4, hd4⟩ := at_T31 hd (k : Int) (by omega) hltl
       cases ea
       rw [Int.toNat_natCast] at hy0 hy1 hy2
       have hcall := q4 k hkl A4 c4 wr hd4 hl4
       clear q1 q2 q3 q4 hd hd4 hl4
       cases hq : rightE (rd_T31 kids (k : Int)) with
       | false =>
        rw [hq] at hcall
        have HF := Aside0.mk (rightEs_false kids k hkl hq)
        clear hq
        go_wp2_with (go_at_call 112; refine hcall.mono ?_; rintro e w' ⟨rfl, hb⟩)
        go_ret
        rw [HF.out]
        exact ⟨rfl, H.out.2.2.1.trans ((HW.out.trans (hb.mono HW.out.size)).mono H.out.2.2.1.size)⟩
       | true =>
        rw [hq] at hcall
        have HT := Aside0.mk hq
        clear hq
        go_wp2_with (go_at_call 112; refine hcall.mono ?_; rintro e w' ⟨rfl, hb⟩)
        go_roundw
        case rel =>
         refine ⟨k + 1, by omega, by go_num, ⟨fun j hj => ?_⟩, ⟨HW.out.trans (hb.mono HW.out.size)⟩⟩
         by_cases e : j = k
         ·subst e
          exact HT.out
         ·exact HA.out j (by omega)
        case measure => simp [intOf]; omega
      ·have hk' : k = 2 := by omega
       subst hk'
       have HE := Aside0.mk (rightEs_true kids (fun j hj => HA.out j (by omega)))
       go_wp2
       go_ret
       rw [HE.out]
       exact ⟨rfl, H.out.2.2.1.trans (HW.out.mono H.out.2.2.1.size)⟩
    ·have hres : rightE ⟨5, 0, kids⟩ = false := by rw [rightE, show kidsM 5 = 2 from rfl, beq_false_of_ne hm]; rfl
     rw [hres]
     clear hres
     go_enter Try.func112, Try.ntmps112
     go_wp2
     go_ret
     exact ⟨rfl, H.out.2.2.1⟩
   ·have hres : rightE ⟨5, n, kids⟩ = false := by rw [rightE, show numB 5 n = (n == 0) from rfl, beq_false_of_ne hn, Bool.false_and, Bool.and_false]
    rw [hres]
    clear hres
    go_enter Try.func112, Try.ntmps112
    go_wp2
    go_ret
    exact ⟨rfl, H.out.2.2.1⟩
  by_cases k6 : kind = 6
  ·subst k6
   by_cases hn : n = 0
   ·subst hn
    by_cases hm : (kids.length : Int) = 2
    ·have hres : rightE ⟨6, 0, kids⟩ = rightEs kids := by rw [rightE, hm]; rfl
     rw [hres]
     clear hres
     go_enter Try.func112, Try.ntmps112
     go_wp2_with fail
     go_loopw [4] (fun i wr => ∃ k : Nat, k ≤ 2 ∧ i = .int .i64 k ∧ Aside0 (∀ j : Nat, j < k → rightE (rd_T31 kids (j : Int)) = true) ∧ Aside0 (Below (w.alloc (.cells #[.int .i64 6, .int .i64 0, .slice A2 kids.length c2] 31)).heap.size (w.alloc (.cells #[.int .i64 6, .int .i64 0, .slice A2 kids.length c2] 31)) wr)) (fun i _ => 2 - (intOf i).toNat)
     case atStart => exact ⟨0, by omega, rfl, ⟨fun j hj => absurd hj (Nat.not_lt_zero _)⟩, ⟨Below.refl _ _⟩⟩
     case round =>
      obtain ⟨k, hk, rfl, HA, HW⟩ := hrel
      by_cases hlt : k < 2
      ·have hltz : (k : Int) < 2 := by omega
       have hltl : (k : Int) < (kids.length : Int) := by omega
       have hkl : k < kids.length := by omega
       obtain ⟨q1, q2, q3, q4⟩ := H.out
       have hd := Kd.C_below (Kd.C_below q1 q3) HW.out
       have hx2 : wr.cell? ⟨w.heap.size, 2, none⟩ = some (.slice A2 kids.length c2) := (HW.out.cell (p := ⟨w.heap.size, 2, none⟩) (by simp [World.alloc_eq])).trans (by go_simp)
       obtain ⟨ad, A4, c4, ea, hy0, hy1, hy2, hl4, hd4⟩ := at_T31 hd (k : Int) (by omega) hltl
       cases ea
       rw [Int.toNat_natCast] at hy0 hy1 hy2
       have hcall := q4 k hkl A4 c4 wr hd4 hl4
       clear q1 q2 q3 q4 hd hd4 hl4
       cases hq : rightE (rd_T31 kids (k : Int)) with
       | false =>
        rw [hq] at hcall
        have HF := Aside0.mk (rightEs_false kids k hkl hq)
        clear hq
        go_wp2_with (go_at_call 112; refine hcall.mono ?_; rintro e w' ⟨rfl, hb⟩)
        go_ret
        rw [HF.out]
        exact ⟨rfl, H.out.2.2.1.trans ((HW.out.trans (hb.mono HW.out.size)).mono H.out.2.2.1.size)⟩
       | true =>
        rw [hq] at hcall
        have HT := Aside0.mk hq
        clear hq
        go_wp2_with (go_at_call 112; refine hcall.mono ?_; rintro e w' ⟨rfl, hb⟩)
        go_roundw
        case rel =>
         refine ⟨k + 1, by omega, by go_num, ⟨fun j hj => ?_⟩, ⟨HW.out.trans (hb.mono HW.out.size)⟩⟩
         by_cases e : j = k
         ·subst e
          exact HT.out
         ·exact HA.out j (by omega)
        case measure => simp [intOf]; omega
      ·have hk' : k = 2 := by omega
       subst hk'
       have HE := Aside0.mk (rightEs_true kids (fun j hj => HA.out j (by omega)))
       go_wp2
       go_ret
       rw [HE.out]
       exact ⟨rfl, H.out.2.2.1.trans (HW.out.mono H.out.2.2.1.size)⟩
    ·have hres : rightE ⟨6, 0, kids⟩ = false := by rw [rightE, show kidsM 6 = 2 from rfl, beq_false_of_ne hm]; rfl
     rw [hres]
     clear hres
     go_enter Try.func112, Try.ntmps112
     go_wp2
     go_ret
     exact ⟨rfl, H.out.2.2.1⟩
   ·have hres : rightE ⟨6, n, kids⟩ = false := by rw [rightE, show numB 6 n = (n == 0) from rfl, beq_false_of_ne hn, Bool.false_and, Bool.and_false]
    rw [hres]
    clear hres
    go_enter Try.func112, Try.ntmps112
    go_wp2
    go_ret
    exact ⟨rfl, H.out.2.2.1⟩
  by_cases k7 : kind = 7
  ·subst k7
   by_cases hn : n = 0
   ·subst hn
    by_cases hm : (kids.length : Int) = 3
    ·have hres : rightE ⟨7, 0, kids⟩ = rightEs kids := by rw [rightE, hm]; rfl
     rw [hres]
     clear hres
     go_enter Try.func112, Try.ntmps112
     go_wp2_with fail
     go_loopw [4] (fun i wr => ∃ k : Nat, k ≤ 3 ∧ i = .int .i64 k ∧ Aside0 (∀ j : Nat, j < k → rightE (rd_T31 kids (j : Int)) = true) ∧ Aside0 (Below (w.alloc (.cells #[.int .i64 7, .int .i64 0, .slice A2 kids.length c2] 31)).heap.size (w.alloc (.cells #[.int .i64 7, .int .i64 0, .slice A2 kids.length c2] 31)) wr)) (fun i _ => 3 - (intOf i).toNat)
     case atStart => exact ⟨0, by omega, rfl, ⟨fun j hj => absurd hj (Nat.not_lt_zero _)⟩, ⟨Below.refl _ _⟩⟩
     case round =>
      obtain ⟨k, hk, rfl, HA, HW⟩ := hrel
      by_cases hlt : k < 3
      ·have hltz : (k : Int) < 3 := by omega
       have hltl : (k : Int) < (kids.length : Int) := by omega
       have hkl : k < kids.length := by omega
       obtain ⟨q1, q2, q3, q4⟩ := H.out
       have hd := Kd.C_below (Kd.C_below q1 q3) HW.out
       have hx2 : wr.cell? ⟨w.heap.size, 2, none⟩ = some (.slice A2 kids.length c2) := (HW.out.cell (p := ⟨w.heap.size, 2, none⟩) (by simp [World.alloc_eq])).trans (by go_simp)
       obtain ⟨ad, A4, c4, ea, hy0, hy1, hy2, hl4, hd4⟩ := at_T31 hd (k : Int) (by omega) hltl
       cases ea
       rw [Int.toNat_natCast] at hy0 hy1 hy2
       have hcall := q4 k hkl A4 c4 wr hd4 hl4
       clear q1 q2 q3 q4 hd hd4 hl4
       cases hq : rightE (rd_T31 kids (k : Int)) with
       | false =>
        rw [hq] at hcall
        have HF := Aside0.mk (rightEs_false kids k hkl hq)
        clear hq
        go_wp2_with (go_at_call 112; refine hcall.mono ?_; rintro e w' ⟨rfl, hb⟩)
        go_ret
        rw [HF.out]
        exact ⟨rfl, H.out.2.2.1.trans ((HW.out.trans (hb.mono HW.out.size)).mono H.out.2.2.1.size)⟩
       | true =>
        rw [hq] at hcall
        have HT := Aside0.mk hq
        clear hq
        go_wp2_with (go_at_call 112; refine hcall.mono ?_; rintro e w' ⟨rfl, hb⟩)
        go_roundw
        case rel =>
         refine ⟨k + 1, by omega, by go_num, ⟨fun j hj => ?_⟩, ⟨HW.out.trans (hb.mono HW.out.size)⟩⟩
         by_cases e : j = k
         ·subst e
          exact HT.out
         ·exact HA.out j (by omega)
        case measure => simp [intOf]; omega
      ·have hk' : k = 3 := by omega
       subst hk'
       have HE := Aside0.mk (rightEs_true kids (fun j hj => HA.out j (by omega)))
       go_wp2
       go_ret
       rw [HE.out]
       exact ⟨rfl, H.out.2.2.1.trans (HW.out.mono H.out.2.2.1.size)⟩
    ·have hres : rightE ⟨7, 0, kids⟩ = false := by rw [rightE, show kidsM 7 = 3 from rfl, beq_false_of_ne hm]; rfl
     rw [hres]
     clear hres
     go_enter Try.func112, Try.ntmps112
     go_wp2
     go_ret
     exact ⟨rfl, H.out.2.2.1⟩
   ·have hres : rightE ⟨7, n, kids⟩ = false := by rw [rightE, show numB 7 n = (n == 0) from rfl, beq_false_of_ne hn, Bool.false_and, Bool.and_false]
    rw [hres]
    clear hres
    go_enter Try.func112, Try.ntmps112
    go_wp2
    go_ret
    exact ⟨rfl, H.out.2.2.1⟩
  have hres : rightE ⟨kind, n, kids⟩ = false := by
   rw [rightE, show kidsM kind = -1 by unfold kidsM; rw [if_neg k1, if_neg k2, if_neg kk3, if_neg kk4, if_neg k5, if_neg k6, if_neg k7], beq_false_of_ne (by omega)]
   rfl
  rw [hres]
  clear hres
  go_enter Try.func112, Try.ntmps112
  go_wp2
  go_ret
  exact ⟨rfl, H.out.2.2.1⟩
def spec_l04Right.f (a0_0 a0_1 : Int) (l0_2 : List (S31)) : Option Bool := some (rightE ⟨a0_0, a0_1, l0_2⟩)
theorem spec_l04Right.calls (a0_0 : Int) (a0_1 : Int) (A0_2 : Option Addr) (c0_2 : Nat) (l0_2 : List (S31)) (r : Bool) (w : World) (hr0_2 : Kd.C k31 w A0_2 l0_2.length l0_2) (hc0_2 : l0_2.length ≤ c0_2) (h : spec_l04Right.f a0_0 a0_1 l0_2 = some r) :
  Calls Try.prog 112 #[.agg #[.int .i64 a0_0, .int .i64 a0_1, .slice A0_2 l0_2.length c0_2]] w fun e w' => e = .returned (.bool r) ∧ Below w.heap.size w w' := by
 obtain rfl := Option.some.inj h
 exact right_calls _ ⟨a0_0, a0_1, l0_2⟩ (Nat.lt_succ_self _) A0_2 c0_2 w hr0_2 hc0_2
def spec_ExOK.f (k : Nat) (a0_0 : Int) (a0_1 : Int) (l0_2 : List (S31)) : Option (Bool) := (spec_l04Left.f k a0_0 a0_1 l0_2 400 1).bind fun t131 => (if t131 ≥ 0 then ((spec_l04Right.f a0_0 a0_1 l0_2).bind fun t132 => (some t132)) else (some false))
set_option maxHeartbeats 8000000 in
set_option maxRecDepth 100000 in
theorem spec_ExOK.calls (k : Nat) (a0_0 : Int) (a0_1 : Int) (A0_2 : Option Addr) (c0_2 : Nat) (l0_2 : List (S31)) (r : Bool) (w : World) (hr0_2 : Kd.C k31 w A0_2 l0_2.length l0_2) (hc0_2 : l0_2.length ≤ c0_2) (h : spec_ExOK.f k a0_0 a0_1 l0_2 = some r) :
  Calls Try.prog 57 #[.agg #[.int .i64 a0_0, .int .i64 a0_1, .slice A0_2 l0_2.length c0_2]] w fun e w' => e = .returned (.bool r) ∧ Below w.heap.size w w' := by
 have hu31 := Try.underlying31
 have HR0_2 := Aside0.mk hr0_2
 have HC0_2 := Aside0.mk hc0_2
 clear hr0_2 hc0_2
 have HB := Aside0.mk (Below.refl w.heap.size w)
 have H : ((spec_l04Left.f k a0_0 a0_1 l0_2 400 1).bind fun t131 => (if t131 ≥ 0 then ((spec_l04Right.f a0_0 a0_1 l0_2).bind fun t132 => (some t132)) else (some false))) = some r := h
 clear h
 replace H := Option.bind_eq_some_iff.mp H
 obtain ⟨t131, A20, H⟩ := H
 replace H : (if t131 ≥ 0 then ((spec_l04Right.f a0_0 a0_1 l0_2).bind fun t132 => (some t132)) else (some false)) = some r := H
 have A2 := Aside0.mk A20
 clear A20
 by_cases c3 : t131 ≥ 0
 ·rw [if_pos c3] at H
  have c3b0 : decide (0 ≤ t131) = true := decide_eq_true c3
  clear c3
  replace H := Option.bind_eq_some_iff.mp H
  obtain ⟨t132, A40, H⟩ := H
  replace H : (some t132) = some r := H
  have A4 := Aside0.mk A40
  clear A40
  obtain rfl := Option.some.inj H
  go_enter Try.func57, Try.ntmps57
  go_wp2_with (first | ((with_reducible refine gate_dst (N := 1) rfl ?_); refine box_event ?hg (N := 1) ?hd (cs := #[.int .i64 a0_0, .int .i64 a0_1, .slice A0_2 l0_2.length c0_2]) (t := 31) ?hr ?_; (case hd => rfl); (case hg => rfl); (case hr => first | (go_simp; done) | (go_simp; rfl)); intro gb130 hg w5 hbox hb; have n0_ := Aside0.mk (below_step (by repeat (first | (with_reducible first | exact HB.out | apply below_alloc | apply pw_below_drewN | apply below_drew1) | exact HB.out)) hb); have n1_ := Aside0.mk (hbox); have n2_ := Aside0.mk ((by rw [hg]; exact (below_size (by repeat (first | (with_reducible first | exact HB.out | apply below_alloc | apply pw_below_drewN | apply below_drew1) | exact HB.out))) : w.heap.size ≤ gb130)); have n3_ := Aside0.mk ((by rw [hg]; exact (below_size (by repeat (first | (with_reducible first | exact HB.out | apply below_alloc | apply pw_below_drewN | apply below_drew1) | exact HB.out))) : w.heap.size ≤ gb130)); clear HB; have HB := n0_; have BK130 := n1_; have GW130 := n2_; have GE130 := n3_; clear n0_ n1_ n2_ n3_; clear hb hbox hg; have hcz6_0 : w5.cell? ⟨gb130, 0, none⟩ = some (.int .i64 a0_0) := (blk_cell BK130.out 0).trans rfl; have hcz6_1 : w5.cell? ⟨gb130, 1, none⟩ = some (.int .i64 a0_1) := (blk_cell BK130.out 1).trans rfl; have hcz6_2 : w5.cell? ⟨gb130, 2, none⟩ = some (.slice A0_2 l0_2.length c0_2) := (blk_cell BK130.out 2).trans rfl; have hfz6_0 := blk_frozen BK130.out 0; have hfz6_1 := blk_frozen BK130.out 1; have hfz6_2 := blk_frozen BK130.out 2) | ((with_reducible refine gate_callee (f := 111) rfl ?_); refine goesL_ (some 4) rfl rfl Try.func111 (by kernel_rfl) rfl #[.agg #[.int .i64 a0_0, .int .i64 a0_1, .slice A0_2 l0_2.length c0_2], .int .i64 400, .int .i64 1] rfl (by (try simp only [List.map_toArray, List.map_cons, List.map_nil]); first | done | rfl | (simp only [List.length_drop, List.length_take]; rfl)) ?_; (with_reducible refine (spec_l04Left.calls k a0_0 a0_1 _ _ l0_2 400 1 t131 _ ?side1 ?side2 A2.out).mono ?_); (case side1 => repeat (first | exact (Kd.C_below HR0_2.out HB.out) | (with_reducible refine Kd.C_alloc ?_ _) | (with_reducible refine Kd.C_drewN ?_ _) | (with_reducible refine Kd.C_drew ?_))); (case side2 => exact HC0_2.out); rintro e w7 ⟨rfl, hb⟩; refine ⟨_, rfl, ?_⟩; have n0_ := Aside0.mk (blk_below (g := gb130) (o := .cells #[.int .i64 a0_0, .int .i64 a0_1, .slice A0_2 l0_2.length c0_2] 31 (0, 0)) (by (with_reducible repeat (first | refine blk_drewN ?_ _ | refine blk_drew ?_ | refine blk_alloc ?_ _)); exact BK130.out) hb); have n1_ := Aside0.mk (below_step (by repeat (first | (with_reducible first | exact HB.out | apply below_alloc | apply pw_below_drewN | apply below_drew1 | refine below_set ?_ GE130.out) | exact HB.out)) hb); clear BK130; clear HB; have BK130 := n0_; have HB := n1_; clear n0_ n1_; (try clear hb); (try clear hb2); (try clear hk); (try clear hi); have hcz8_0 : w7.cell? ⟨gb130, 0, none⟩ = some (.int .i64 a0_0) := (blk_cell BK130.out 0).trans rfl; have hcz8_1 : w7.cell? ⟨gb130, 1, none⟩ = some (.int .i64 a0_1) := (blk_cell BK130.out 1).trans rfl; have hcz8_2 : w7.cell? ⟨gb130, 2, none⟩ = some (.slice A0_2 l0_2.length c0_2) := (blk_cell BK130.out 2).trans rfl; have hfz8_0 := blk_frozen BK130.out 0; have hfz8_1 := blk_frozen BK130.out 1; have hfz8_2 := blk_frozen BK130.out 2) | (go_at_call 112; (with_reducible refine (spec_l04Right.calls a0_0 a0_1 _ _ l0_2 t132 _ ?side1 ?side2 A4.out).mono ?_); (case side1 => repeat (first | exact (Kd.C_below HR0_2.out HB.out) | (with_reducible refine Kd.C_alloc ?_ _) | (with_reducible refine Kd.C_drewN ?_ _) | (with_reducible refine Kd.C_drew ?_))); (case side2 => exact HC0_2.out); rintro e w9 ⟨rfl, hb⟩; have n0_ := Aside0.mk (blk_below (g := gb130) (o := .cells #[.int .i64 a0_0, .int .i64 a0_1, .slice A0_2 l0_2.length c0_2] 31 (0, 0)) (by (with_reducible repeat (first | refine blk_drewN ?_ _ | refine blk_drew ?_ | refine blk_alloc ?_ _)); exact BK130.out) hb); have n1_ := Aside0.mk (below_step (by repeat (first | (with_reducible first | exact HB.out | apply below_alloc | apply pw_below_drewN | apply below_drew1 | refine below_set ?_ GE130.out) | exact HB.out)) hb); clear BK130; clear HB; have BK130 := n0_; have HB := n1_; clear n0_ n1_; (try clear hb); (try clear hb2); (try clear hk); (try clear hi)))
  go_ret
  exact ⟨by first | rfl | (simp [errW_none, errW_some] <;> rfl) | (simp [*, errW_none, errW_some] <;> rfl), by repeat (first | (with_reducible first | exact HB.out | apply below_alloc | apply pw_below_drewN | apply below_drew1 | refine below_set ?_ GE130.out) | exact HB.out)⟩
 ·rw [if_neg c3] at H
  have c3b0 : decide (0 ≤ t131) = false := decide_eq_false c3
  clear c3
  obtain rfl := Option.some.inj H
  go_enter Try.func57, Try.ntmps57
  go_wp2_with (first | ((with_reducible refine gate_dst (N := 1) rfl ?_); refine box_event ?hg (N := 1) ?hd (cs := #[.int .i64 a0_0, .int .i64 a0_1, .slice A0_2 l0_2.length c0_2]) (t := 31) ?hr ?_; (case hd => rfl); (case hg => rfl); (case hr => first | (go_simp; done) | (go_simp; rfl)); intro gb130 hg w10 hbox hb; have n0_ := Aside0.mk (below_step (by repeat (first | (with_reducible first | exact HB.out | apply below_alloc | apply pw_below_drewN | apply below_drew1) | exact HB.out)) hb); have n1_ := Aside0.mk (hbox); have n2_ := Aside0.mk ((by rw [hg]; exact (below_size (by repeat (first | (with_reducible first | exact HB.out | apply below_alloc | apply pw_below_drewN | apply below_drew1) | exact HB.out))) : w.heap.size ≤ gb130)); have n3_ := Aside0.mk ((by rw [hg]; exact (below_size (by repeat (first | (with_reducible first | exact HB.out | apply below_alloc | apply pw_below_drewN | apply below_drew1) | exact HB.out))) : w.heap.size ≤ gb130)); clear HB; have HB := n0_; have BK130 := n1_; have GW130 := n2_; have GE130 := n3_; clear n0_ n1_ n2_ n3_; clear hb hbox hg; have hcz11_0 : w10.cell? ⟨gb130, 0, none⟩ = some (.int .i64 a0_0) := (blk_cell BK130.out 0).trans rfl; have hcz11_1 : w10.cell? ⟨gb130, 1, none⟩ = some (.int .i64 a0_1) := (blk_cell BK130.out 1).trans rfl; have hcz11_2 : w10.cell? ⟨gb130, 2, none⟩ = some (.slice A0_2 l0_2.length c0_2) := (blk_cell BK130.out 2).trans rfl; have hfz11_0 := blk_frozen BK130.out 0; have hfz11_1 := blk_frozen BK130.out 1; have hfz11_2 := blk_frozen BK130.out 2) | ((with_reducible refine gate_callee (f := 111) rfl ?_); refine goesL_ (some 4) rfl rfl Try.func111 (by kernel_rfl) rfl #[.agg #[.int .i64 a0_0, .int .i64 a0_1, .slice A0_2 l0_2.length c0_2], .int .i64 400, .int .i64 1] rfl (by (try simp only [List.map_toArray, List.map_cons, List.map_nil]); first | done | rfl | (simp only [List.length_drop, List.length_take]; rfl)) ?_; (with_reducible refine (spec_l04Left.calls k a0_0 a0_1 _ _ l0_2 400 1 t131 _ ?side1 ?side2 A2.out).mono ?_); (case side1 => repeat (first | exact (Kd.C_below HR0_2.out HB.out) | (with_reducible refine Kd.C_alloc ?_ _) | (with_reducible refine Kd.C_drewN ?_ _) | (with_reducible refine Kd.C_drew ?_))); (case side2 => exact HC0_2.out); rintro e w12 ⟨rfl, hb⟩; refine ⟨_, rfl, ?_⟩; have n0_ := Aside0.mk (blk_below (g := gb130) (o := .cells #[.int .i64 a0_0, .int .i64 a0_1, .slice A0_2 l0_2.length c0_2] 31 (0, 0)) (by (with_reducible repeat (first | refine blk_drewN ?_ _ | refine blk_drew ?_ | refine blk_alloc ?_ _)); exact BK130.out) hb); have n1_ := Aside0.mk (below_step (by repeat (first | (with_reducible first | exact HB.out | apply below_alloc | apply pw_below_drewN | apply below_drew1 | refine below_set ?_ GE130.out) | exact HB.out)) hb); clear BK130; clear HB; have BK130 := n0_; have HB := n1_; clear n0_ n1_; (try clear hb); (try clear hb2); (try clear hk); (try clear hi)))
  go_ret
  exact ⟨by first | rfl | (simp [errW_none, errW_some] <;> rfl) | (simp [*, errW_none, errW_some] <;> rfl), by repeat (first | (with_reducible first | exact HB.out | apply below_alloc | apply pw_below_drewN | apply below_drew1 | refine below_set ?_ GE130.out) | exact HB.out)⟩
mutual
def spec_l04Most.l0 : Nat → Int → Int → Int → Int → List (S31) → Option (Int)
 | 0, _, _, _, _, _ => none
 | k + 1, x3, x4, x134000, x134001, x134002 => if x4 < (x134002.length : Int) then (if 0 ≤ x4 then ((spec_l04Most.f k ((rd_T31 x134002 x4).f0) ((rd_T31 x134002 x4).f1) ((rd_T31 x134002 x4).f2)).bind fun t135 => (spec_l04Most.l0 k (mx x3 t135) (wrap64 (x4 + 1)) x134000 x134001 x134002)) else (none)) else (some x3)
def spec_l04Most.f : Nat → Int → Int → List (S31) → Option (Int)
 | 0, _, _, _ => none
 | k + 1, a0_0, a0_1, l0_2 => if a0_0 = 1 then (some a0_1) else (spec_l04Most.l0 k (-1) 0 a0_0 a0_1 l0_2)
end
set_option maxHeartbeats 8000000 in
set_option maxRecDepth 100000 in
theorem spec_l04Most.calls (k : Nat) : ∀ (a0_0 : Int) (a0_1 : Int) (A0_2 : Option Addr) (c0_2 : Nat) (l0_2 : List (S31)) (r : Int) (w : World) (hr0_2 : Kd.C k31 w A0_2 l0_2.length l0_2) (hc0_2 : l0_2.length ≤ c0_2) (h : spec_l04Most.f k a0_0 a0_1 l0_2 = some r),
  Calls Try.prog 58 #[.agg #[.int .i64 a0_0, .int .i64 a0_1, .slice A0_2 l0_2.length c0_2]] w fun e w' => e = .returned (.int .i64 r) ∧ Below w.heap.size w w' := by
 induction k using Nat.strongRecOn with
 | _ k ih =>
 intro a0_0 a0_1 A0_2 c0_2 l0_2 r w hr0_2 hc0_2 h
 cases k with
 | zero => exact absurd h (by simp [spec_l04Most.f])
 | succ k =>
 simp only [spec_l04Most.f] at h
 have hu31 := Try.underlying31
 have HR0_2 := Aside0.mk hr0_2
 have HC0_2 := Aside0.mk hc0_2
 clear hr0_2 hc0_2
 have HB := Aside0.mk (Below.refl w.heap.size w)
 have H : (if a0_0 = 1 then (some a0_1) else (spec_l04Most.l0 k (-1) 0 a0_0 a0_1 l0_2)) = some r := h
 clear h
 by_cases c2 : a0_0 = 1
 ·rw [if_pos c2] at H
  have c2b0 : (a0_0 == 1) = true := beq_iff_eq.mpr c2
  have c2b1 : (a0_0 != 1) = false := bne_eq_false_iff_eq.mpr c2
  clear c2
  obtain rfl := Option.some.inj H
  go_enter Try.func58, Try.ntmps58
  go_wp2_with (first | ((with_reducible refine gate_dst (N := 1) rfl ?_); refine box_event ?hg (N := 1) ?hd (cs := #[.int .i64 a0_0, .int .i64 a0_1, .slice A0_2 l0_2.length c0_2]) (t := 31) ?hr ?_; (case hd => rfl); (case hg => rfl); (case hr => first | (go_simp; done) | (go_simp; rfl)); intro gb133 hg w3 hbox hb; have n0_ := Aside0.mk (below_step (by repeat (first | (with_reducible first | exact HB.out | apply below_alloc | apply pw_below_drewN | apply below_drew1) | exact HB.out)) hb); have n1_ := Aside0.mk (hbox); have n2_ := Aside0.mk ((by rw [hg]; exact (below_size (by repeat (first | (with_reducible first | exact HB.out | apply below_alloc | apply pw_below_drewN | apply below_drew1) | exact HB.out))) : w.heap.size ≤ gb133)); have n3_ := Aside0.mk ((by rw [hg]; exact (below_size (by repeat (first | (with_reducible first | exact HB.out | apply below_alloc | apply pw_below_drewN | apply below_drew1) | exact HB.out))) : w.heap.size ≤ gb133)); clear HB; have HB := n0_; have BK133 := n1_; have GW133 := n2_; have GE133 := n3_; clear n0_ n1_ n2_ n3_; clear hb hbox hg; have hcz4_0 : w3.cell? ⟨gb133, 0, none⟩ = some (.int .i64 a0_0) := (blk_cell BK133.out 0).trans rfl; have hcz4_1 : w3.cell? ⟨gb133, 1, none⟩ = some (.int .i64 a0_1) := (blk_cell BK133.out 1).trans rfl; have hcz4_2 : w3.cell? ⟨gb133, 2, none⟩ = some (.slice A0_2 l0_2.length c0_2) := (blk_cell BK133.out 2).trans rfl; have hfz4_0 := blk_frozen BK133.out 0; have hfz4_1 := blk_frozen BK133.out 1; have hfz4_2 := blk_frozen BK133.out 2))
  go_ret
  exact ⟨by first | rfl | (simp [errW_none, errW_some] <;> rfl) | (simp [*, errW_none, errW_some] <;> rfl), by repeat (first | (with_reducible first | exact HB.out | apply below_alloc | apply pw_below_drewN | apply below_drew1 | refine below_set ?_ GE133.out) | exact HB.out)⟩
 ·rw [if_neg c2] at H
  have c2b0 : (a0_0 == 1) = false := beq_eq_false_iff_ne.mpr c2
  have c2b1 : (a0_0 != 1) = true := bne_iff_ne.mpr c2
  have H' := Aside0.mk H
  clear H
  go_enter Try.func58, Try.ntmps58
  go_wp2_with (first | ((with_reducible refine gate_dst (N := 1) rfl ?_); refine box_event ?hg (N := 1) ?hd (cs := #[.int .i64 a0_0, .int .i64 a0_1, .slice A0_2 l0_2.length c0_2]) (t := 31) ?hr ?_; (case hd => rfl); (case hg => rfl); (case hr => first | (go_simp; done) | (go_simp; rfl)); intro gb133 hg w5 hbox hb; have n0_ := Aside0.mk (below_step (by repeat (first | (with_reducible first | exact HB.out | apply below_alloc | apply pw_below_drewN | apply below_drew1) | exact HB.out)) hb); have n1_ := Aside0.mk (hbox); have n2_ := Aside0.mk ((by rw [hg]; exact (below_size (by repeat (first | (with_reducible first | exact HB.out | apply below_alloc | apply pw_below_drewN | apply below_drew1) | exact HB.out))) : w.heap.size ≤ gb133)); have n3_ := Aside0.mk ((by rw [hg]; exact (below_size (by repeat (first | (with_reducible first | exact HB.out | apply below_alloc | apply pw_below_drewN | apply below_drew1) | exact HB.out))) : w.heap.size ≤ gb133)); clear HB; have HB := n0_; have BK133 := n1_; have GW133 := n2_; have GE133 := n3_; clear n0_ n1_ n2_ n3_; clear hb hbox hg; have hcz6_0 : w5.cell? ⟨gb133, 0, none⟩ = some (.int .i64 a0_0) := (blk_cell BK133.out 0).trans rfl; have hcz6_1 : w5.cell? ⟨gb133, 1, none⟩ = some (.int .i64 a0_1) := (blk_cell BK133.out 1).trans rfl; have hcz6_2 : w5.cell? ⟨gb133, 2, none⟩ = some (.slice A0_2 l0_2.length c0_2) := (blk_cell BK133.out 2).trans rfl; have hfz6_0 := blk_frozen BK133.out 0; have hfz6_1 := blk_frozen BK133.out 1; have hfz6_2 := blk_frozen BK133.out 2))
  go_loopg [3, 4] k (fun kq v3 v4 w' => ∃ (x3_1 : Int) (x4_1 : Int), v3 = .int .i64 x3_1 ∧ v4 = .int .i64 x4_1 ∧ Aside0 (spec_l04Most.l0 kq x3_1 x4_1 a0_0 a0_1 l0_2 = some r) ∧ Aside0 (kq ≤ k) ∧ Aside0 (w'.heap[gb133]? = some (.cells #[.int .i64 a0_0, .int .i64 a0_1, (.slice A0_2 l0_2.length c0_2)] 31 (0, 0))) ∧ Aside0 (Below w.heap.size w w'))
  case atStart => exact ⟨((-1)), (0), (by first | rfl | (simp; done) | (simp [*]; done)), (by first | rfl | (simp; done) | (simp [*]; done)), H', ⟨Nat.le_refl _⟩, ⟨by (with_reducible repeat (first | refine blk_drewN ?_ _ | refine blk_drew ?_ | refine blk_alloc ?_ _)); exact BK133.out⟩, ⟨by repeat (first | (with_reducible first | exact HB.out | apply below_alloc | apply pw_below_drewN | apply below_drew1 | refine below_set ?_ GE133.out) | exact HB.out)⟩⟩
  case round =>
   clear H'
   try clear c2
   try clear c2b0
   try clear c2b1
   try clear p2
   try clear c5
   try clear hcz4_0
   try clear hcz4_1
   try clear hcz4_2
   try clear hcz6_0
   try clear hcz6_1
   try clear hcz6_2
   try clear hfz4_0
   try clear hfz4_1
   try clear hfz4_2
   try clear hfz6_0
   try clear hfz6_1
   try clear hfz6_2
   obtain ⟨x3_1, x4_1, rfl, rfl, HA, HK1, BK133, HB⟩ := hrel
   cases gk with
   | zero => exact absurd HA.out (by simp [spec_l04Most.l0])
   | succ k1 =>
    have H := HA.out
    clear HA
    simp only [spec_l04Most.l0] at H
    by_cases c7 : x4_1 < (l0_2.length : Int)
    ·rw [if_pos c7] at H
     have c7b0 : decide (x4_1 < (l0_2.length : Int)) = true := decide_eq_true c7
     clear c7
     by_cases c8 : 0 ≤ x4_1
     ·rw [if_pos c8] at H
      have c8b0 : decide (0 ≤ x4_1) = true := decide_eq_true c8
      clear c8
      replace H := Option.bind_eq_some_iff.mp H
      obtain ⟨t135, A90, H⟩ := H
      replace H : (spec_l04Most.l0 k1 (mx x3_1 t135) (wrap64 (x4_1 + 1)) a0_0 a0_1 l0_2) = some r := H
      have A9 := Aside0.mk A90
      clear A90
      obtain ⟨ji10, hji10⟩ : ∃ j_ : Int, (mx x3_1 t135) = j_ := ⟨_, rfl⟩
      replace H : (spec_l04Most.l0 k1 ji10 (wrap64 (x4_1 + 1)) a0_0 a0_1 l0_2) = some r := by first | (rw [hji10] at H; exact H) | (simp only [hji10] at H ⊢; exact H)
      (try rw [hji10] at A9)
      have hji10_ : (if x3_1 < t135 then t135 else x3_1) = ji10 := hji10
      have H' := Aside0.mk H
      clear H
      have hcz11_0 : wr.cell? ⟨gb133, 0, none⟩ = some (.int .i64 a0_0) := (blk_cell BK133.out 0).trans rfl
      have hcz11_1 : wr.cell? ⟨gb133, 1, none⟩ = some (.int .i64 a0_1) := (blk_cell BK133.out 1).trans rfl
      have hcz11_2 : wr.cell? ⟨gb133, 2, none⟩ = some (.slice A0_2 l0_2.length c0_2) := (blk_cell BK133.out 2).trans rfl
      have hfz11_0 := blk_frozen BK133.out 0
      have hfz11_1 := blk_frozen BK133.out 1
      have hfz11_2 := blk_frozen BK133.out 2
      have p134 : 0 ≤ (x4_1 : Int) := of_decide_eq_true (by first | (with_reducible assumption) | assumption)
      have q134 : x4_1 < (l0_2.length : Int) := of_decide_eq_true (by first | (with_reducible assumption) | assumption)
      obtain ⟨ad134, A134_2, c134_2, e134, hx134_0, hx134_1, hx134_2, hl134_2, hi134_2⟩ := at_T31 HR0_2.out x4_1 p134 q134
      cases e134
      replace hx134_0 := (HB.out.cell (World.block_lt_of_cell? w _ hx134_0)).trans hx134_0
      replace hx134_1 := (HB.out.cell (World.block_lt_of_cell? w _ hx134_1)).trans hx134_1
      replace hx134_2 := (HB.out.cell (World.block_lt_of_cell? w _ hx134_2)).trans hx134_2
      have HR134_2 := Aside0.mk hi134_2
      have HC134_2 := Aside0.mk hl134_2
      clear hi134_2 hl134_2
      replace p134 := eq_true p134
      replace q134 := eq_true q134
      go_wp2_with (first | ((with_reducible refine gate_callee (f := 58) rfl ?_); refine goesL_ (some 23) rfl rfl Try.func58 (by kernel_rfl) rfl #[.agg #[.int .i64 ((rd_T31 l0_2 x4_1).f0), .int .i64 ((rd_T31 l0_2 x4_1).f1), .slice A134_2 ((rd_T31 l0_2 x4_1).f2).length c134_2]] rfl (by (try simp only [List.map_toArray, List.map_cons, List.map_nil]); first | done | rfl | (simp only [List.length_drop, List.length_take]; rfl)) ?_; (with_reducible refine (ih k1 (by have := HK1.out; omega) ((rd_T31 l0_2 x4_1).f0) ((rd_T31 l0_2 x4_1).f1) _ _ ((rd_T31 l0_2 x4_1).f2) t135 _ ?side1 ?side2 A9.out).mono ?_); (case side1 => repeat (first | exact (Kd.C_below HR134_2.out HB.out) | (with_reducible refine Kd.C_alloc ?_ _) | (with_reducible refine Kd.C_drewN ?_ _) | (with_reducible refine Kd.C_drew ?_))); (case side2 => exact HC134_2.out); rintro e w12 ⟨rfl, hb⟩; refine ⟨_, rfl, ?_⟩; have n0_ := Aside0.mk (blk_below (g := gb133) (o := .cells #[.int .i64 a0_0, .int .i64 a0_1, .slice (some ad134) l0_2.length c0_2] 31 (0, 0)) (by (with_reducible repeat (first | refine blk_drewN ?_ _ | refine blk_drew ?_ | refine blk_alloc ?_ _)); exact BK133.out) hb); have n1_ := Aside0.mk (below_step (by repeat (first | (with_reducible first | exact HB.out | apply below_alloc | apply pw_below_drewN | apply below_drew1 | refine below_set ?_ GE133.out) | exact HB.out)) hb); clear BK133; clear HB; have BK133 := n0_; have HB := n1_; clear n0_ n1_; (try clear hb); (try clear hb2); (try clear hk); (try clear hi)))
      go_roundg k1
      case measure => have := HK1.out; omega
      case rel => exact ⟨(ji10), (wrap64 (x4_1 + 1)), (by first | rfl | (simp; done) | (simp only [← hji10] <;> (first | rfl | simp)) | (simp [*]; done)), (by first | rfl | (simp; done) | (simp [*]; done)), H', ⟨by have := HK1.out; omega⟩, ⟨by (with_reducible repeat (first | refine blk_drewN ?_ _ | refine blk_drew ?_ | refine blk_alloc ?_ _)); exact BK133.out⟩, ⟨by repeat (first | (with_reducible first | exact HB.out | apply below_alloc | apply pw_below_drewN | apply below_drew1 | refine below_set ?_ GE133.out) | exact HB.out)⟩⟩
     ·rw [if_neg c8] at H
      exact absurd H (by simp)
    ·rw [if_neg c7] at H
     have c7b0 : decide (x4_1 < (l0_2.length : Int)) = false := decide_eq_false c7
     clear c7
     obtain rfl := Option.some.inj H
     have hcz13_0 : wr.cell? ⟨gb133, 0, none⟩ = some (.int .i64 a0_0) := (blk_cell BK133.out 0).trans rfl
     have hcz13_1 : wr.cell? ⟨gb133, 1, none⟩ = some (.int .i64 a0_1) := (blk_cell BK133.out 1).trans rfl
     have hcz13_2 : wr.cell? ⟨gb133, 2, none⟩ = some (.slice A0_2 l0_2.length c0_2) := (blk_cell BK133.out 2).trans rfl
     have hfz13_0 := blk_frozen BK133.out 0
     have hfz13_1 := blk_frozen BK133.out 1
     have hfz13_2 := blk_frozen BK133.out 2
     go_wp2
     go_ret
     exact ⟨by first | rfl | (simp [errW_none, errW_some] <;> rfl) | (simp [*, errW_none, errW_some] <;> rfl), by repeat (first | (with_reducible first | exact HB.out | apply below_alloc | apply pw_below_drewN | apply below_drew1 | refine below_set ?_ GE133.out) | exact HB.out)⟩
def spec_l04Not.f (a0 : Int) : Option (Int) := if (Int.tmod a0 2) = 1 then (some (wrap64 (a0 - 1))) else (some (wrap64 (a0 + 1)))
set_option maxHeartbeats 8000000 in
set_option maxRecDepth 100000 in
theorem spec_l04Not.calls (a0 : Int) (r : Int) (w : World) (h : spec_l04Not.f a0 = some r) :
  Calls Try.prog 132 #[.int .i64 a0] w fun e w' => e = .returned (.int .i64 r) ∧ Drawn0 w w' := by
 have H : (if (Int.tmod a0 2) = 1 then (some (wrap64 (a0 - 1))) else (some (wrap64 (a0 + 1)))) = some r := h
 clear h
 by_cases c2 : (Int.tmod a0 2) = 1
 ·rw [if_pos c2] at H
  have c2b0 : ((Int.tmod a0 2) == 1) = true := beq_iff_eq.mpr c2
  have c2b1 : ((Int.tmod a0 2) != 1) = false := bne_eq_false_iff_eq.mpr c2
  clear c2
  obtain rfl := Option.some.inj H
  go_enter Try.func132, Try.ntmps132
  go_wp2
  go_ret
  exact ⟨by first | rfl | (simp; done) | (simp [*]; done), by repeat (first | exact Drawn0.refl _ | apply Drawn0.step)⟩
 ·rw [if_neg c2] at H
  have c2b0 : ((Int.tmod a0 2) == 1) = false := beq_eq_false_iff_ne.mpr c2
  have c2b1 : ((Int.tmod a0 2) != 1) = true := bne_iff_ne.mpr c2
  obtain rfl := Option.some.inj H
  go_enter Try.func132, Try.ntmps132
  go_wp2
  go_ret
  exact ⟨by first | rfl | (simp; done) | (simp [*]; done), by repeat (first | exact Drawn0.refl _ | apply Drawn0.step)⟩
theorem heap2E (w : World) (a b : Obj) : ((w.alloc a).alloc b).heap[w.heap.size + 1]? = some b := by
 show ((w.heap.push a).push b)[w.heap.size + 1]? = some b
 rw [Array.getElem?_push]
 simp
theorem below2E (w : World) (a b : Obj) : Below w.heap.size w ((w.alloc a).alloc b) := by
 have h1 := (Below.refl w.heap.size w).alloc (Nat.le_refl _) a
 exact h1.alloc h1.size b
def impl_isEx.f (a0_0 a0_1 : Int) (l0_2 : List (S31)) : Option Bool := some (countE ⟨a0_0, a0_1, l0_2⟩ 1 0).1
set_option maxHeartbeats 4000000 in
set_option maxRecDepth 100000 in
theorem impl_isEx.calls (a0_0 : Int) (a0_1 : Int) (A0_2 : Option Addr) (c0_2 : Nat) (l0_2 : List (S31)) (r : Bool) (w : World) (hr0_2 : Kd.C k31 w A0_2 l0_2.length l0_2) (hc0_2 : l0_2.length ≤ c0_2) (h : impl_isEx.f a0_0 a0_1 l0_2 = some r) :
  Calls Try.prog 60 #[.agg #[.int .i64 a0_0, .int .i64 a0_1, .slice A0_2 l0_2.length c0_2]] w fun e w' => e = .returned (.bool r) ∧ Below w.heap.size w w' := by
 have hrr : (countE ⟨a0_0, a0_1, l0_2⟩ 1 0).1 = r := Option.some.inj h
 have hB := below2E w (.cells #[.int .i64 a0_0, .int .i64 a0_1, .slice A0_2 l0_2.length c0_2] 31) (.cells #[.int .i64 0] 3)
 have hcall := countE_calls _ ⟨a0_0, a0_1, l0_2⟩ (Nat.lt_succ_self _) 1 0 A0_2 c0_2 (w.heap.size + 1) w ((w.alloc (.cells #[.int .i64 a0_0, .int .i64 a0_1, .slice A0_2 l0_2.length c0_2] 31)).alloc (.cells #[.int .i64 0] 3)) hr0_2 hc0_2 hB (by omega) (heap2E w _ _)
 rw [hrr] at hcall
 have HB := Aside0.mk hB
 clear h hr0_2 hc0_2 hrr hB
 go_enter Try.func60, Try.ntmps60
 go_wp2_with (go_at_call 113; refine hcall.mono ?_; rintro e w' ⟨rfl, hb⟩)
 go_ret
 exact ⟨rfl, hb.base HB.out (by omega)⟩
end Go.Proofs.Ytcmkkoggdcjceaa.PFnExactBuildAig
end
section
namespace Go.Proofs.Ytcmkkoggdcjceaa.PFnExactBuildAig
open Go.RowKit Go.Proofs.YtcmkkoggdcjceaaW.PrintWords Go.Proofs.YtcmkkoggdcjceaaW.PrintLast Go.Proofs.YtcmkkoggdcjceaaW.PrintMore
attribute [local go_sem] max2_int min2_int max_two min_two max_three min_three max_four min_four   -- for this text's walks alone
set_option linter.unusedVariables false
set_option linter.unusedSimpArgs false
theorem eqA114 (d : Nat) (w : World) (x0 y0 : Int) (x1 y1 : Int) :
  (Op.equalIn (d + 2) 114 (.agg #[.int .i64 x0, .int .i64 x1]) (.agg #[.int .i64 y0, .int .i64 y1])).run Try.prog w = .ok (x0 == y0 && (x1 == y1)) w := by
 refine eqA_of Try.underlying114 (by kernel_rfl) ?_
 refine eqf_cons (by rfl) (by go_simp; rfl) (by go_simp; rfl) (by go_simp) ?_
 exact eqf_last (by rfl) (by go_simp; rfl) (by go_simp; rfl) (by go_simp)
end Go.Proofs.Ytcmkkoggdcjceaa.PFnExactBuildAig
end
section
namespace Go.Proofs.Ytcmkkoggdcjceaa.PFnExactBuildAig
open Go.RowKit Go.Proofs.YtcmkkoggdcjceaaW.PrintWords Go.Proofs.YtcmkkoggdcjceaaW.PrintLast Go.Proofs.YtcmkkoggdcjceaaW.PrintMore
attribute [local go_sem] max2_int min2_int max_two min_two max_three min_three max_four min_four   -- for this text's walks alone
set_option linter.unusedVariables false
set_option linter.unusedSimpArgs false
attribute [local go_sem high] eqA114
mutual
def impl_mostVar.j0 : Nat → Int → Int → Int → List (S31) → Option (Int)
 | 0, _, _, _, _ => none
 | k + 1, x3, x137000, x137001, x137002 => impl_mostVar.l0 k x3 x137002 (x137002.length : Int) 0
def impl_mostVar.l0 : Nat → Int → List (S31) → Int → Int → Option (Int)
 | 0, _, _, _, _ => none
 | k + 1, x3, x12, x13, x14 => if x14 < x13 then (if 0 ≤ x14 then (if x14 < (x12.length : Int) then ((impl_mostVar.f k ((rd_T31 x12 x14).f0) ((rd_T31 x12 x14).f1) ((rd_T31 x12 x14).f2)).bind fun t139 => (impl_mostVar.l0 k (mx x3 t139) x12 x13 (wrap64 (x14 + 1)))) else (none)) else (none)) else (some x3)
def impl_mostVar.f : Nat → Int → Int → List (S31) → Option (Int)
 | 0, _, _, _ => none
 | k + 1, a0_0, a0_1, l0_2 => if a0_0 = 1 then (impl_mostVar.j0 k a0_1 a0_0 a0_1 l0_2) else (impl_mostVar.j0 k (-1) a0_0 a0_1 l0_2)
end
set_option maxHeartbeats 8000000 in
set_option maxRecDepth 100000 in
theorem impl_mostVar.calls (k : Nat) : ∀ (a0_0 : Int) (a0_1 : Int) (A0_2 : Option Addr) (c0_2 : Nat) (l0_2 : List (S31)) (r : Int) (w : World) (hr0_2 : Kd.C k31 w A0_2 l0_2.length l0_2) (hc0_2 : l0_2.length ≤ c0_2) (h : impl_mostVar.f k a0_0 a0_1 l0_2 = some r),
  Calls Try.prog 61 #[.agg #[.int .i64 a0_0, .int .i64 a0_1, .slice A0_2 l0_2.length c0_2]] w fun e w' => e = .returned (.int .i64 r) ∧ Below w.heap.size w w' := by
 induction k using Nat.strongRecOn with
 | _ k ih =>
 intro a0_0 a0_1 A0_2 c0_2 l0_2 r w hr0_2 hc0_2 h
 cases k with
 | zero => exact absurd h (by simp [impl_mostVar.f])
 | succ k =>
 simp only [impl_mostVar.f] at h
 have hu31 := Try.underlying31
 have HR0_2 := Aside0.mk hr0_2
 have HC0_2 := Aside0.mk hc0_2
 clear hr0_2 hc0_2
 have HB := Aside0.mk (Below.refl w.heap.size w)
 have H : (if a0_0 = 1 then (impl_mostVar.j0 k a0_1 a0_0 a0_1 l0_2) else (impl_mostVar.j0 k (-1) a0_0 a0_1 l0_2)) = some r := h
 clear h
 have HC2 := Aside0.mk H
 clear H
 go_enter Try.func61, Try.ntmps61
 go_upto_if 8 with (first | ((with_reducible refine gate_dst (N := 1) rfl ?_); refine box_event ?hg (N := 1) ?hd (cs := #[.int .i64 a0_0, .int .i64 a0_1, .slice A0_2 l0_2.length c0_2]) (t := 31) ?hr ?_; (case hd => rfl); (case hg => rfl); (case hr => first | (go_simp; done) | (go_simp; rfl)); intro gb136 hg w3 hbox hb; have n0_ := Aside0.mk (below_step (by repeat (first | (with_reducible first | exact HB.out | apply below_alloc | apply pw_below_drewN | apply below_drew1) | exact HB.out)) hb); have n1_ := Aside0.mk (hbox); have n2_ := Aside0.mk ((by rw [hg]; exact (below_size (by repeat (first | (with_reducible first | exact HB.out | apply below_alloc | apply pw_below_drewN | apply below_drew1) | exact HB.out))) : w.heap.size ≤ gb136)); have n3_ := Aside0.mk ((by rw [hg]; exact (below_size (by repeat (first | (with_reducible first | exact HB.out | apply below_alloc | apply pw_below_drewN | apply below_drew1) | exact HB.out))) : w.heap.size ≤ gb136)); clear HB; have HB := n0_; have BK136 := n1_; have GW136 := n2_; have GE136 := n3_; clear n0_ n1_ n2_ n3_; clear hb hbox hg; have hcz4_0 : w3.cell? ⟨gb136, 0, none⟩ = some (.int .i64 a0_0) := (blk_cell BK136.out 0).trans rfl; have hcz4_1 : w3.cell? ⟨gb136, 1, none⟩ = some (.int .i64 a0_1) := (blk_cell BK136.out 1).trans rfl; have hcz4_2 : w3.cell? ⟨gb136, 2, none⟩ = some (.slice A0_2 l0_2.length c0_2) := (blk_cell BK136.out 2).trans rfl; have hfz4_0 := blk_frozen BK136.out 0; have hfz4_1 := blk_frozen BK136.out 1; have hfz4_2 := blk_frozen BK136.out 2))
 (try simp only [Act.put, List.setIfInBounds_toArray, List.set_cons_zero, List.set_cons_succ])
 go_cut [3] (fun v3 wc => ∃ (kq : Nat) (x3_1 : Int), v3 = .int .i64 x3_1 ∧ Aside0 (impl_mostVar.j0 kq x3_1 a0_0 a0_1 l0_2 = some r) ∧ Aside0 (kq ≤ k) ∧ Aside0 (wc.heap[gb136]? = some (.cells #[.int .i64 a0_0, .int .i64 a0_1, (.slice A0_2 l0_2.length c0_2)] 31 (0, 0))) ∧ Aside0 (Below w.heap.size w wc))
 case first =>
  have H := HC2.out
  clear HC2
  by_cases c5 : a0_0 = 1
  ·rw [if_pos c5] at H
   have c5b0 : (a0_0 == 1) = true := beq_iff_eq.mpr c5
   have c5b1 : (a0_0 != 1) = false := bne_eq_false_iff_eq.mpr c5
   clear c5
   (first | rw [c5b0] | (simp only [i64_w, i32_w]; rw [c5b0]) | skip)
   have H' := Aside0.mk H
   clear H
   have hcz6_0 : w3.cell? ⟨gb136, 0, none⟩ = some (.int .i64 a0_0) := (blk_cell BK136.out 0).trans rfl
   have hcz6_1 : w3.cell? ⟨gb136, 1, none⟩ = some (.int .i64 a0_1) := (blk_cell BK136.out 1).trans rfl
   have hcz6_2 : w3.cell? ⟨gb136, 2, none⟩ = some (.slice A0_2 l0_2.length c0_2) := (blk_cell BK136.out 2).trans rfl
   have hfz6_0 := blk_frozen BK136.out 0
   have hfz6_1 := blk_frozen BK136.out 1
   have hfz6_2 := blk_frozen BK136.out 2
   go_wp2
   go_meet
   case rel => exact ⟨_, (a0_1), (by first | rfl | (simp; done) | (simp [*]; done)), H', ⟨by first | omega | exact Nat.le_refl _⟩, ⟨by (with_reducible repeat (first | refine blk_drewN ?_ _ | refine blk_drew ?_ | refine blk_alloc ?_ _)); exact BK136.out⟩, ⟨by repeat (first | (with_reducible first | exact HB.out | apply below_alloc | apply pw_below_drewN | apply below_drew1 | refine below_set ?_ GE136.out) | exact HB.out)⟩⟩
  ·rw [if_neg c5] at H
   have c5b0 : (a0_0 == 1) = false := beq_eq_false_iff_ne.mpr c5
   have c5b1 : (a0_0 != 1) = true := bne_iff_ne.mpr c5
   (first | rw [c5b0] | (simp only [i64_w, i32_w]; rw [c5b0]) | skip)
   have H' := Aside0.mk H
   clear H
   go_wp2
   go_meet
   case rel => exact ⟨_, ((-1)), (by first | rfl | (simp; done) | (simp [*]; done)), H', ⟨by first | omega | exact Nat.le_refl _⟩, ⟨by (with_reducible repeat (first | refine blk_drewN ?_ _ | refine blk_drew ?_ | refine blk_alloc ?_ _)); exact BK136.out⟩, ⟨by repeat (first | (with_reducible first | exact HB.out | apply below_alloc | apply pw_below_drewN | apply below_drew1 | refine below_set ?_ GE136.out) | exact HB.out)⟩⟩
 case rest =>
  clear HC2
  try clear p2
  try clear c5
  try clear c5b0
  try clear c5b1
  try clear c6
  try clear hcz4_0
  try clear hcz4_1
  try clear hcz4_2
  try clear hcz6_0
  try clear hcz6_1
  try clear hcz6_2
  try clear hfz4_0
  try clear hfz4_1
  try clear hfz4_2
  try clear hfz6_0
  try clear hfz6_1
  try clear hfz6_2
  obtain ⟨kq, x3_1, rfl, HA, HJ1, BK136, HB⟩ := hcut
  cases kq with
  | zero => exact absurd HA.out (by simp [impl_mostVar.j0])
  | succ kj1 =>
   have H := HA.out
   clear HA
   simp only [impl_mostVar.j0] at H
   have H' := Aside0.mk H
   clear H
   have hcz7_0 : wc.cell? ⟨gb136, 0, none⟩ = some (.int .i64 a0_0) := (blk_cell BK136.out 0).trans rfl
   have hcz7_1 : wc.cell? ⟨gb136, 1, none⟩ = some (.int .i64 a0_1) := (blk_cell BK136.out 1).trans rfl
   have hcz7_2 : wc.cell? ⟨gb136, 2, none⟩ = some (.slice A0_2 l0_2.length c0_2) := (blk_cell BK136.out 2).trans rfl
   have hfz7_0 := blk_frozen BK136.out 0
   have hfz7_1 := blk_frozen BK136.out 1
   have hfz7_2 := blk_frozen BK136.out 2
   go_wp2
   go_loopg [3, 14] kj1 (fun kq v3 v14 w' => ∃ (x3_2 : Int) (x14_2 : Int), v3 = .int .i64 x3_2 ∧ v14 = .int .i64 x14_2 ∧ Aside0 (impl_mostVar.l0 kq x3_2 l0_2 (l0_2.length : Int) x14_2 = some r) ∧ Aside0 (kq ≤ kj1) ∧ Aside0 (w'.heap[gb136]? = some (.cells #[.int .i64 a0_0, .int .i64 a0_1, (.slice A0_2 l0_2.length c0_2)] 31 (0, 0))) ∧ Aside0 (Below w.heap.size w w'))
   case atStart => exact ⟨(x3_1), (0), (by first | rfl | (simp; done) | (simp [*]; done)), (by first | rfl | (simp; done) | (simp [*]; done)), H', ⟨Nat.le_refl _⟩, ⟨by (with_reducible repeat (first | refine blk_drewN ?_ _ | refine blk_drew ?_ | refine blk_alloc ?_ _)); exact BK136.out⟩, ⟨by repeat (first | (with_reducible first | exact HB.out | apply below_alloc | apply pw_below_drewN | apply below_drew1 | refine below_set ?_ GE136.out) | exact HB.out)⟩⟩
   case round =>
    clear H'
    try clear p2
    try clear c5
    try clear c5b0
    try clear c5b1
    try clear c6
    try clear hcz4_0
    try clear hcz4_1
    try clear hcz4_2
    try clear hcz6_0
    try clear hcz6_1
    try clear hcz6_2
    try clear hcz7_0
    try clear hcz7_1
    try clear hcz7_2
    try clear hfz4_0
    try clear hfz4_1
    try clear hfz4_2
    try clear hfz6_0
    try clear hfz6_1
    try clear hfz6_2
    try clear hfz7_0
    try clear hfz7_1
    try clear hfz7_2
    try clear p2
    obtain ⟨x3_2, x14_2, rfl, rfl, HA, HK2, BK136, HB⟩ := hrel
    cases gk with
    | zero => exact absurd HA.out (by simp [impl_mostVar.l0])
    | succ k2 =>
     have H := HA.out
     clear HA
     simp only [impl_mostVar.l0] at H
     by_cases c8 : x14_2 < (l0_2.length : Int)
     ·rw [if_pos c8] at H
      have c8b0 : decide (x14_2 < (l0_2.length : Int)) = true := decide_eq_true c8
      clear c8
      by_cases c9 : 0 ≤ x14_2
      ·rw [if_pos c9] at H
       have c9b0 : decide (0 ≤ x14_2) = true := decide_eq_true c9
       clear c9
       by_cases c10 : x14_2 < (l0_2.length : Int)
       ·rw [if_pos c10] at H
        have c10b0 : decide (x14_2 < (l0_2.length : Int)) = true := decide_eq_true c10
        clear c10
        replace H := Option.bind_eq_some_iff.mp H
        obtain ⟨t139, A110, H⟩ := H
        replace H : (impl_mostVar.l0 k2 (mx x3_2 t139) l0_2 (l0_2.length : Int) (wrap64 (x14_2 + 1))) = some r := H
        have A11 := Aside0.mk A110
        clear A110
        obtain ⟨ji12, hji12⟩ : ∃ j_ : Int, (mx x3_2 t139) = j_ := ⟨_, rfl⟩
        replace H : (impl_mostVar.l0 k2 ji12 l0_2 (l0_2.length : Int) (wrap64 (x14_2 + 1))) = some r := by first | (rw [hji12] at H; exact H) | (simp only [hji12] at H ⊢; exact H)
        (try rw [hji12] at A11)
        have hji12_ : (if x3_2 < t139 then t139 else x3_2) = ji12 := hji12
        have H' := Aside0.mk H
        clear H
        have p137 : 0 ≤ (x14_2 : Int) := of_decide_eq_true (by first | (with_reducible assumption) | assumption)
        have q137 : x14_2 < (l0_2.length : Int) := of_decide_eq_true (by first | (with_reducible assumption) | assumption)
        obtain ⟨ad137, A137_2, c137_2, e137, hx137_0, hx137_1, hx137_2, hl137_2, hi137_2⟩ := at_T31 HR0_2.out x14_2 p137 q137
        cases e137
        replace hx137_0 := (HB.out.cell (World.block_lt_of_cell? w _ hx137_0)).trans hx137_0
        replace hx137_1 := (HB.out.cell (World.block_lt_of_cell? w _ hx137_1)).trans hx137_1
        replace hx137_2 := (HB.out.cell (World.block_lt_of_cell? w _ hx137_2)).trans hx137_2
        have HR137_2 := Aside0.mk hi137_2
        have HC137_2 := Aside0.mk hl137_2
        clear hi137_2 hl137_2
        replace p137 := eq_true p137
        replace q137 := eq_true q137
        go_wp2_with (first | ((with_reducible refine gate_dst (N := 5) rfl ?_); refine box_event ?hg (N := 5) ?hd (cs := #[.int .i64 0, .int .i64 0, .slice none 0 0]) (t := 31) ?hr ?_; (case hd => rfl); (case hg => rfl); (case hr => first | (go_simp; done) | (go_simp; rfl)); intro gb138 hg w13 hbox hb; have n0_ := Aside0.mk (blk_below (g := gb136) (o := .cells #[.int .i64 a0_0, .int .i64 a0_1, .slice (some ad137) l0_2.length c0_2] 31 (0, 0)) (by (with_reducible repeat (first | refine blk_drewN ?_ _ | refine blk_drew ?_ | refine blk_alloc ?_ _)); exact BK136.out) hb); have n1_ := Aside0.mk (below_step (by repeat (first | (with_reducible first | exact HB.out | apply below_alloc | apply pw_below_drewN | apply below_drew1 | refine below_set ?_ GE136.out) | exact HB.out)) hb); have n2_ := Aside0.mk (hbox); have n3_ := Aside0.mk ((by rw [hg]; exact (below_size (by repeat (first | (with_reducible first | exact HB.out | apply below_alloc | apply pw_below_drewN | apply below_drew1 | refine below_set ?_ GE136.out) | exact HB.out))) : w.heap.size ≤ gb138)); have n4_ := Aside0.mk ((by rw [hg]; exact (below_size (by repeat (first | (with_reducible first | exact HB.out | apply below_alloc | apply pw_below_drewN | apply below_drew1 | refine below_set ?_ GE136.out) | exact HB.out))) : w.heap.size ≤ gb138)); have n5_ := Aside0.mk ((by rw [hg]; exact Nat.ne_of_lt (blk_lt (g := gb136) (o := .cells #[.int .i64 a0_0, .int .i64 a0_1, .slice (some ad137) l0_2.length c0_2] 31 (0, 0)) (by (with_reducible repeat (first | refine blk_drewN ?_ _ | refine blk_drew ?_ | refine blk_alloc ?_ _)); exact BK136.out)) : gb136 ≠ gb138)); have n6_ := Aside0.mk ((by rw [hg]; exact Nat.ne_of_gt (blk_lt (g := gb136) (o := .cells #[.int .i64 a0_0, .int .i64 a0_1, .slice (some ad137) l0_2.length c0_2] 31 (0, 0)) (by (with_reducible repeat (first | refine blk_drewN ?_ _ | refine blk_drew ?_ | refine blk_alloc ?_ _)); exact BK136.out)) : gb138 ≠ gb136)); clear BK136; clear HB; have BK136 := n0_; have HB := n1_; have BK138 := n2_; have GW138 := n3_; have GE138 := n4_; have NB136_138 := n5_; have NB138_136 := n6_; clear n0_ n1_ n2_ n3_ n4_ n5_ n6_; clear hb hbox hg; have hnb14 := NB138_136.out; have hnc14 := NB136_138.out; have hcz15_0 : w13.cell? ⟨gb138, 0, none⟩ = some (.int .i64 0) := (blk_cell BK138.out 0).trans rfl; have hcz15_1 : w13.cell? ⟨gb138, 1, none⟩ = some (.int .i64 0) := (blk_cell BK138.out 1).trans rfl; have hcz15_2 : w13.cell? ⟨gb138, 2, none⟩ = some (.slice none 0 0) := (blk_cell BK138.out 2).trans rfl; have hfz15_0 := blk_frozen BK138.out 0; have hfz15_1 := blk_frozen BK138.out 1; have hfz15_2 := blk_frozen BK138.out 2) | ((with_reducible refine gate_callee (f := 61) rfl ?_); refine goesL_ (some 20) rfl rfl Try.func61 (by kernel_rfl) rfl #[.agg #[.int .i64 ((rd_T31 l0_2 x14_2).f0), .int .i64 ((rd_T31 l0_2 x14_2).f1), .slice A137_2 ((rd_T31 l0_2 x14_2).f2).length c137_2]] rfl (by (try simp only [List.map_toArray, List.map_cons, List.map_nil]); first | done | rfl | (simp only [List.length_drop, List.length_take]; rfl)) ?_; (with_reducible refine (ih k2 (by have := HJ1.out; have := HK2.out; omega) ((rd_T31 l0_2 x14_2).f0) ((rd_T31 l0_2 x14_2).f1) _ _ ((rd_T31 l0_2 x14_2).f2) t139 _ ?side1 ?side2 A11.out).mono ?_); (case side1 => exact Kd.C_below HR137_2.out (by repeat (first | (with_reducible first | exact HB.out | apply below_alloc | apply pw_below_drewN | apply below_drew1 | refine below_set ?_ GE136.out | refine below_set ?_ GE138.out) | exact HB.out))); (case side2 => exact HC137_2.out); rintro e w16 ⟨rfl, hb⟩; refine ⟨_, rfl, ?_⟩; have n0_ := Aside0.mk (blk_below (g := gb136) (o := .cells #[.int .i64 a0_0, .int .i64 a0_1, .slice (some ad137) l0_2.length c0_2] 31 (0, 0)) (by (with_reducible repeat (first | refine blk_drewN ?_ _ | refine blk_drew ?_ | refine blk_alloc ?_ _)); refine blk_far ?_ NB136_138.out _; (with_reducible repeat (first | refine blk_drewN ?_ _ | refine blk_drew ?_ | refine blk_alloc ?_ _)); refine blk_far ?_ NB136_138.out _; (with_reducible repeat (first | refine blk_drewN ?_ _ | refine blk_drew ?_ | refine blk_alloc ?_ _)); refine blk_far ?_ NB136_138.out _; (with_reducible repeat (first | refine blk_drewN ?_ _ | refine blk_drew ?_ | refine blk_alloc ?_ _)); exact BK136.out) hb); have n1_ := Aside0.mk (blk_below (g := gb138) (o := .cells #[.int .i64 ((rd_T31 l0_2 x14_2).f0), .int .i64 ((rd_T31 l0_2 x14_2).f1), .slice A137_2 ((rd_T31 l0_2 x14_2).f2).length c137_2] 31 (0, 0)) (by (with_reducible repeat (first | refine blk_drewN ?_ _ | refine blk_drew ?_ | refine blk_alloc ?_ _)); refine blk_put (cs := #[.int .i64 ((rd_T31 l0_2 x14_2).f0), .int .i64 ((rd_T31 l0_2 x14_2).f1), .slice none 0 0]) ?_ 2 _ rfl; (with_reducible repeat (first | refine blk_drewN ?_ _ | refine blk_drew ?_ | refine blk_alloc ?_ _)); refine blk_put (cs := #[.int .i64 ((rd_T31 l0_2 x14_2).f0), .int .i64 0, .slice none 0 0]) ?_ 1 _ rfl; (with_reducible repeat (first | refine blk_drewN ?_ _ | refine blk_drew ?_ | refine blk_alloc ?_ _)); refine blk_put (cs := #[.int .i64 0, .int .i64 0, .slice none 0 0]) ?_ 0 _ rfl; (with_reducible repeat (first | refine blk_drewN ?_ _ | refine blk_drew ?_ | refine blk_alloc ?_ _)); exact BK138.out) hb); have n2_ := Aside0.mk (below_step (by repeat (first | (with_reducible first | exact HB.out | apply below_alloc | apply pw_below_drewN | apply below_drew1 | refine below_set ?_ GE136.out | refine below_set ?_ GE138.out) | exact HB.out)) hb); clear BK136; clear BK138; clear HB; have BK136 := n0_; have BK138 := n1_; have HB := n2_; clear n0_ n1_ n2_; (try clear hb); (try clear hb2); (try clear hk); (try clear hi)))
        go_roundg k2
        case measure => have := HJ1.out; have := HK2.out; omega
        case rel => exact ⟨(ji12), (wrap64 (x14_2 + 1)), (by first | rfl | (simp; done) | (simp only [← hji12] <;> (first | rfl | simp)) | (simp [*]; done)), (by first | rfl | (simp; done) | (simp [*]; done)), H', ⟨by have := HJ1.out; have := HK2.out; omega⟩, ⟨by (with_reducible repeat (first | refine blk_drewN ?_ _ | refine blk_drew ?_ | refine blk_alloc ?_ _)); exact BK136.out⟩, ⟨by repeat (first | (with_reducible first | exact HB.out | apply below_alloc | apply pw_below_drewN | apply below_drew1 | refine below_set ?_ GE136.out | refine below_set ?_ GE138.out) | exact HB.out)⟩⟩
       ·rw [if_neg c10] at H
        exact absurd H (by simp)
      ·rw [if_neg c9] at H
       exact absurd H (by simp)
     ·rw [if_neg c8] at H
      have c8b0 : decide (x14_2 < (l0_2.length : Int)) = false := decide_eq_false c8
      clear c8
      obtain rfl := Option.some.inj H
      go_wp2
      go_ret
      exact ⟨by first | rfl | (simp [errW_none, errW_some] <;> rfl) | (simp [*, errW_none, errW_some] <;> rfl), by repeat (first | (with_reducible first | exact HB.out | apply below_alloc | apply pw_below_drewN | apply below_drew1 | refine below_set ?_ GE136.out) | exact HB.out)⟩
def impl_Gate.l0 : Nat → List (S114) → Int → Int → Int → Int → Option (Int)
 | 0, _, _, _, _, _ => none
 | k + 1, x0, x7, x8, x141000, x141001 => if x8 < x7 then (if 0 ≤ x8 then (if x8 < (x0.length : Int) then (if (x141000 == ((rd_T114 x0 x8).f0) && (x141001 == ((rd_T114 x0 x8).f1))) = true then (some x8) else (impl_Gate.l0 k x0 x7 (wrap64 (x8 + 1)) x141000 x141001)) else (none)) else (none)) else (some (-1))
def impl_Gate.f (k : Nat) (l0 : List (S114)) (a1_0 : Int) (a1_1 : Int) : Option (Int) := impl_Gate.l0 k l0 (l0.length : Int) 0 a1_0 a1_1
set_option maxHeartbeats 8000000 in
set_option maxRecDepth 100000 in
theorem impl_Gate.calls (k : Nat) (A0 : Option Addr) (c0 : Nat) (l0 : List (S114)) (a1_0 : Int) (a1_1 : Int) (r : Int) (w : World) (hr0 : Kd.C k114 w A0 l0.length l0) (hc0 : l0.length ≤ c0) (h : impl_Gate.f k l0 a1_0 a1_1 = some r) :
  Calls Try.prog 138 #[.slice A0 l0.length c0, .agg #[.int .i64 a1_0, .int .i64 a1_1]] w fun e w' => e = .returned (.int .i64 r) ∧ Below w.heap.size w w' := by
 have hu114 := Try.underlying114
 have HR0 := Aside0.mk hr0
 have HC0 := Aside0.mk hc0
 clear hr0 hc0
 have HB := Aside0.mk (Below.refl w.heap.size w)
 have H : (impl_Gate.l0 k l0 (l0.length : Int) 0 a1_0 a1_1) = some r := h
 clear h
 have H' := Aside0.mk H
 clear H
 go_enter Try.func138, Try.ntmps138
 go_wp2_with (first | ((with_reducible refine gate_dst (N := 3) rfl ?_); refine box_event ?hg (N := 3) ?hd (cs := #[.int .i64 a1_0, .int .i64 a1_1]) (t := 114) ?hr ?_; (case hd => rfl); (case hg => rfl); (case hr => first | (go_simp; done) | (go_simp; rfl)); intro gb140 hg w3 hbox hb; have n0_ := Aside0.mk (below_step (by repeat (first | (with_reducible first | exact HB.out | apply below_alloc | apply pw_below_drewN | apply below_drew1) | exact HB.out)) hb); have n1_ := Aside0.mk (hbox); have n2_ := Aside0.mk ((by rw [hg]; exact (below_size (by repeat (first | (with_reducible first | exact HB.out | apply below_alloc | apply pw_below_drewN | apply below_drew1) | exact HB.out))) : w.heap.size ≤ gb140)); have n3_ := Aside0.mk ((by rw [hg]; exact (below_size (by repeat (first | (with_reducible first | exact HB.out | apply below_alloc | apply pw_below_drewN | apply below_drew1) | exact HB.out))) : w.heap.size ≤ gb140)); clear HB; have HB := n0_; have BK140 := n1_; have GW140 := n2_; have GE140 := n3_; clear n0_ n1_ n2_ n3_; clear hb hbox hg))
 repeat (go_quiet (first | ((with_reducible refine gate_dst (N := 3) rfl ?_); refine box_event ?hg (N := 3) ?hd (cs := #[.int .i64 a1_0, .int .i64 a1_1]) (t := 114) ?hr ?_; (case hd => rfl); (case hg => rfl); (case hr => first | (go_simp; done) | (go_simp; rfl)); intro gb140 hg w3 hbox hb; have n0_ := Aside0.mk (below_step (by repeat (first | (with_reducible first | exact HB.out | apply below_alloc | apply pw_below_drewN | apply below_drew1) | exact HB.out)) hb); have n1_ := Aside0.mk (hbox); have n2_ := Aside0.mk ((by rw [hg]; exact (below_size (by repeat (first | (with_reducible first | exact HB.out | apply below_alloc | apply pw_below_drewN | apply below_drew1) | exact HB.out))) : w.heap.size ≤ gb140)); have n3_ := Aside0.mk ((by rw [hg]; exact (below_size (by repeat (first | (with_reducible first | exact HB.out | apply below_alloc | apply pw_below_drewN | apply below_drew1) | exact HB.out))) : w.heap.size ≤ gb140)); clear HB; have HB := n0_; have BK140 := n1_; have GW140 := n2_; have GE140 := n3_; clear n0_ n1_ n2_ n3_; clear hb hbox hg)); try go_wp2_with (first | ((with_reducible refine gate_dst (N := 3) rfl ?_); refine box_event ?hg (N := 3) ?hd (cs := #[.int .i64 a1_0, .int .i64 a1_1]) (t := 114) ?hr ?_; (case hd => rfl); (case hg => rfl); (case hr => first | (go_simp; done) | (go_simp; rfl)); intro gb140 hg w3 hbox hb; have n0_ := Aside0.mk (below_step (by repeat (first | (with_reducible first | exact HB.out | apply below_alloc | apply pw_below_drewN | apply below_drew1) | exact HB.out)) hb); have n1_ := Aside0.mk (hbox); have n2_ := Aside0.mk ((by rw [hg]; exact (below_size (by repeat (first | (with_reducible first | exact HB.out | apply below_alloc | apply pw_below_drewN | apply below_drew1) | exact HB.out))) : w.heap.size ≤ gb140)); have n3_ := Aside0.mk ((by rw [hg]; exact (below_size (by repeat (first | (with_reducible first | exact HB.out | apply below_alloc | apply pw_below_drewN | apply below_drew1) | exact HB.out))) : w.heap.size ≤ gb140)); clear HB; have HB := n0_; have BK140 := n1_; have GW140 := n2_; have GE140 := n3_; clear n0_ n1_ n2_ n3_; clear hb hbox hg)))
 go_loopg [8] k (fun kq v8 w' => ∃ (x8_1 : Int), v8 = .int .i64 x8_1 ∧ Aside0 (impl_Gate.l0 kq l0 (l0.length : Int) x8_1 a1_0 a1_1 = some r) ∧ Aside0 (kq ≤ k) ∧ Aside0 (w'.heap[gb140]? = some (.cells #[.int .i64 a1_0, .int .i64 a1_1] 114 (0, 0))) ∧ Aside0 (Below w.heap.size w w'))
 case atStart => exact ⟨(0), (by first | rfl | (simp; done) | (simp [*]; done)), H', ⟨Nat.le_refl _⟩, ⟨by (with_reducible repeat (first | refine blk_drewN ?_ _ | refine blk_drew ?_ | refine blk_alloc ?_ _)); exact BK140.out⟩, ⟨by repeat (first | (with_reducible first | exact HB.out | apply below_alloc | apply pw_below_drewN | apply below_drew1 | refine below_set ?_ GE140.out) | exact HB.out)⟩⟩
 case round =>
  clear H'
  try clear c1
  try clear p2
  obtain ⟨x8_1, rfl, HA, HK1, BK140, HB⟩ := hrel
  cases gk with
  | zero => exact absurd HA.out (by simp [impl_Gate.l0])
  | succ k1 =>
   have H := HA.out
   clear HA
   simp only [impl_Gate.l0] at H
   by_cases c4 : x8_1 < (l0.length : Int)
   ·rw [if_pos c4] at H
    have c4b0 : decide (x8_1 < (l0.length : Int)) = true := decide_eq_true c4
    clear c4
    by_cases c5 : 0 ≤ x8_1
    ·rw [if_pos c5] at H
     have c5b0 : decide (0 ≤ x8_1) = true := decide_eq_true c5
     clear c5
     by_cases c6 : x8_1 < (l0.length : Int)
     ·rw [if_pos c6] at H
      have c6b0 : decide (x8_1 < (l0.length : Int)) = true := decide_eq_true c6
      clear c6
      by_cases c7 : (a1_0 == ((rd_T114 l0 x8_1).f0) && (a1_1 == ((rd_T114 l0 x8_1).f1))) = true
      ·rw [if_pos c7] at H
       have c7b0 : (a1_0 == ((rd_T114 l0 x8_1).f0) && (a1_1 == ((rd_T114 l0 x8_1).f1))) = true := c7
       (try (have c7b1 : decide (a1_0 = ((rd_T114 l0 x8_1).f0) && (a1_1 == ((rd_T114 l0 x8_1).f1))) = true := by simpa using c7))
       (try (have c7b2 : (a1_0 == ((rd_T114 l0 x8_1).f0) && (a1_1 == ((rd_T114 l0 x8_1).f1))) = true := by simpa using c7))
       clear c7
       obtain rfl := Option.some.inj H
       have hcz8_0 : wr.cell? ⟨gb140, 0, none⟩ = some (.int .i64 a1_0) := (blk_cell BK140.out 0).trans rfl
       have hcz8_1 : wr.cell? ⟨gb140, 1, none⟩ = some (.int .i64 a1_1) := (blk_cell BK140.out 1).trans rfl
       have hfz8_0 := blk_frozen BK140.out 0
       have hfz8_1 := blk_frozen BK140.out 1
       have p141 : 0 ≤ (x8_1 : Int) := of_decide_eq_true (by first | (with_reducible assumption) | assumption)
       have q141 : x8_1 < (l0.length : Int) := of_decide_eq_true (by first | (with_reducible assumption) | assumption)
       obtain ⟨ad141, e141, hx141_0, hx141_1⟩ := at_T114 HR0.out x8_1 p141 q141
       cases e141
       replace hx141_0 := (HB.out.cell (World.block_lt_of_cell? w _ hx141_0)).trans hx141_0
       replace hx141_1 := (HB.out.cell (World.block_lt_of_cell? w _ hx141_1)).trans hx141_1
       replace p141 := eq_true p141
       replace q141 := eq_true q141
       go_wp2
       repeat (go_quiet (fail); try go_wp2)
       go_ret
       exact ⟨by first | rfl | (simp [errW_none, errW_some] <;> rfl) | (simp [*, errW_none, errW_some] <;> rfl), by repeat (first | (with_reducible first | exact HB.out | apply below_alloc | apply pw_below_drewN | apply below_drew1 | refine below_set ?_ GE140.out) | exact HB.out)⟩
      ·rw [if_neg c7] at H
       have c7b0 : (a1_0 == ((rd_T114 l0 x8_1).f0) && (a1_1 == ((rd_T114 l0 x8_1).f1))) = false := by simpa using c7
       (try (have c7b1 : decide (a1_0 = ((rd_T114 l0 x8_1).f0) && (a1_1 == ((rd_T114 l0 x8_1).f1))) = false := by simpa using c7))
       (try (have c7b2 : (a1_0 == ((rd_T114 l0 x8_1).f0) && (a1_1 == ((rd_T114 l0 x8_1).f1))) = false := by simpa using c7))
       (try (have c7b3 : ¬ (a1_0 = ((rd_T114 l0 x8_1).f0) && (a1_1 == ((rd_T114 l0 x8_1).f1))) := by simpa using c7))
       clear c7
       have H' := Aside0.mk H
       clear H
       have hcz9_0 : wr.cell? ⟨gb140, 0, none⟩ = some (.int .i64 a1_0) := (blk_cell BK140.out 0).trans rfl
       have hcz9_1 : wr.cell? ⟨gb140, 1, none⟩ = some (.int .i64 a1_1) := (blk_cell BK140.out 1).trans rfl
       have hfz9_0 := blk_frozen BK140.out 0
       have hfz9_1 := blk_frozen BK140.out 1
       have p141 : 0 ≤ (x8_1 : Int) := of_decide_eq_true (by first | (with_reducible assumption) | assumption)
       have q141 : x8_1 < (l0.length : Int) := of_decide_eq_true (by first | (with_reducible assumption) | assumption)
       obtain ⟨ad141, e141, hx141_0, hx141_1⟩ := at_T114 HR0.out x8_1 p141 q141
       cases e141
       replace hx141_0 := (HB.out.cell (World.block_lt_of_cell? w _ hx141_0)).trans hx141_0
       replace hx141_1 := (HB.out.cell (World.block_lt_of_cell? w _ hx141_1)).trans hx141_1
       replace p141 := eq_true p141
       replace q141 := eq_true q141
       go_wp2
       repeat (go_quiet (fail); try go_wp2)
       go_roundg k1
       case measure => have := HK1.out; omega
       case rel => exact ⟨(wrap64 (x8_1 + 1)), (by first | rfl | (simp; done) | (simp [*]; done)), H', ⟨by have := HK1.out; omega⟩, ⟨by (with_reducible repeat (first | refine blk_drewN ?_ _ | refine blk_drew ?_ | refine blk_alloc ?_ _)); exact BK140.out⟩, ⟨by repeat (first | (with_reducible first | exact HB.out | apply below_alloc | apply pw_below_drewN | apply below_drew1 | refine below_set ?_ GE140.out) | exact HB.out)⟩⟩
     ·rw [if_neg c6] at H
      exact absurd H (by simp)
    ·rw [if_neg c5] at H
     exact absurd H (by simp)
   ·rw [if_neg c4] at H
    have c4b0 : decide (x8_1 < (l0.length : Int)) = false := decide_eq_false c4
    clear c4
    obtain rfl := Option.some.inj H
    go_wp2
    repeat (go_quiet (fail); try go_wp2)
    go_ret
    exact ⟨by first | rfl | (simp [errW_none, errW_some] <;> rfl) | (simp [*, errW_none, errW_some] <;> rfl), by repeat (first | (with_reducible first | exact HB.out | apply below_alloc | apply pw_below_drewN | apply below_drew1 | refine below_set ?_ GE140.out) | exact HB.out)⟩
theorem inf114 : (Try.prog.info? 114).map (fun i => (i.zero, i.size, i.bytes)) = some (some (.agg #[.int .i64 0, .int .i64 0]), 2, 16) := by kernel_rfl
def bx (y : Int) : Int := Go.bits .xor .i64 y 1
def lo2 (x y : Int) : Int := if y < x then y else x
def hi2 (x y : Int) : Int := if x < y then y else x
def andI (K : Nat) (n : Int) (x y : Int) (gs : List S114) : Option (Int × List S114) :=
 if lo2 x y = 0 then some (0, gs) else if lo2 x y = bx (hi2 x y) then some (0, gs) else if lo2 x y = 1 then some (hi2 x y, gs) else if lo2 x y = hi2 x y then some (hi2 x y, gs) else
 (impl_Gate.f K gs (lo2 x y) (hi2 x y)).bind fun at_ => if at_ < 0 then (if gs.length ≤ 100000 then some (wrap64 (2 * wrap64 (wrap64 (1 + n) + (gs.length : Int))), gs ++ [⟨lo2 x y, hi2 x y⟩]) else none) else some (wrap64 (2 * wrap64 (wrap64 (1 + n) + at_)), gs)
def orI (K : Nat) (n : Int) (x y : Int) (gs : List S114) : Option (Int × List S114) := (andI K n (bx x) (bx y) gs).bind fun p => some (bx p.1, p.2)
def GW (b : Nat) (v : Value) (k : Nat) : Prop := k = b ∨ v.ownBlock = some k
def RK (ok : Nat → Prop) (w : World) (k : Nat) : Prop := ok k ∨ w.heap.size ≤ k
theorem heap_set {w : World} {N j : Nat} {cs : Array Value} {t : TypeId} {u : Value} (h : w.heap[N]? = some (.cells cs t (0, 0))) : (w.setCell ⟨N, j, none⟩ u).heap[N]? = some (.cells (cs.setIfInBounds j u) t (0, 0)) := by
 rw [setCell_eq_setRow w N j cs t (0, 0) u h]
 exact setRow_heap w N cs _ t _ h
theorem box2n {t : Nat} {W wb : World} {gb : Nat} {z1 z2 a v : Value} (hg : gb = W.heap.size) (hbox : wb.heap[gb]? = some (.cells #[z1, z2] t (0, 0))) (hb : Below W.heap.size W wb) : ((wb.setCell ⟨gb, 0, none⟩ a).setCell ⟨gb, 1, none⟩ v).heap[gb]? = some (.cells #[a, v] t (0, 0)) ∧ Below W.heap.size W ((wb.setCell ⟨gb, 0, none⟩ a).setCell ⟨gb, 1, none⟩ v) :=
 ⟨heap_set (heap_set hbox), below_set (below_set hb (Nat.le_of_eq hg.symm)) (Nat.le_of_eq hg.symm)⟩
structure MK (t : Nat) (w0 W : World) (b : Nat) (n : Int) (ok : Nat → Prop) (v : Value) (gs : List S114) : Prop where
 base : Below w0.heap.size w0 W
 old : w0.heap.size ≤ b
 blk : W.heap[b]? = some (.cells #[.int .i64 n, v] t (0, 0))
 row : Kd.R k114 114 W w0.heap.size ok v gs
structure MKe (t : Nat) (w0 w W : World) (b : Nat) (n : Int) (ok : Nat → Prop) (v v' : Value) (gs : List S114) : Prop where
 now_ : MK t w0 W b n (RK ok w) v' gs
 kept : Kept w W (GW b v)
 own : v'.ownBlock = v.ownBlock ∨ ∃ k, v'.ownBlock = some k ∧ w.heap.size ≤ k
section
variable {t : Nat} {w0 w W W2 : World} {b : Nat} {n : Int} {ok : Nat → Prop} {v v' v2 : Value} {gs gs2 : List S114}
theorem MK.below (h : MK t w0 W b n ok v gs) (hb : Below W.heap.size W W2) : MK t w0 W2 b n ok v gs :=
 ⟨h.base.trans (hb.mono h.base.size), h.old, blk_below h.blk hb, Kd.R_below h.row hb⟩
theorem MK.cells (h : MK t w0 W b n ok v gs) : W.cell? ⟨b, 0, none⟩ = some (.int .i64 n) ∧ W.cell? ⟨b, 1, none⟩ = some v := ⟨(blk_cell h.blk 0).trans rfl, (blk_cell h.blk 1).trans rfl⟩
theorem MK.done (h : MK t w0 w b n ok v gs) (hb : Below w.heap.size w W) : MKe t w0 w W b n ok v v gs :=
 ⟨⟨h.base.trans (hb.mono h.base.size), h.old, blk_below h.blk hb, Kd.R_mono (Kd.R_below h.row hb) (fun _ hk => .inl hk)⟩, Kept.of_below hb _, .inl rfl⟩
theorem MKe.down (h : MKe t w0 w W b n ok v v' gs) {w1 : World} (hb : Below w1.heap.size w1 w) : MKe t w0 w1 W b n ok v v' gs :=
 ⟨⟨h.now_.base, h.now_.old, h.now_.blk, Kd.R_mono h.now_.row (fun _ hk => hk.imp id (fun h => Nat.le_trans hb.size h))⟩, (Kept.of_below hb _).then_ h.kept (fun _ hk => .inl hk), h.own.imp id (fun ⟨k, h1, h2⟩ => ⟨k, h1, Nat.le_trans hb.size h2⟩)⟩
theorem MKe.trans (h : MKe t w0 w W b n ok v v' gs) (h2 : MKe t w0 W W2 b n (RK ok w) v' v2 gs2) : MKe t w0 w W2 b n ok v v2 gs2 :=
 ⟨⟨h2.now_.base, h2.now_.old, h2.now_.blk, Kd.R_mono h2.now_.row (fun _ hk => hk.elim id (fun h9 => .inr (Nat.le_trans h.kept.1 h9)))⟩, h.kept.then_ h2.kept (fun k hk => hk.elim (fun e => .inl (.inl e)) (fun e => h.own.elim (fun e2 => .inl (.inr (e2 ▸ e))) (fun ⟨k2, e2, h9⟩ => .inr (by rw [e] at e2; cases e2; exact h9)))), h2.own.elim (fun e => h.own.imp (fun e2 => e.trans e2) (fun ⟨k, h1, h9⟩ => ⟨k, e.trans h1, h9⟩)) (fun ⟨k, h1, h9⟩ => .inr ⟨k, h1, Nat.le_trans h.kept.1 h9⟩)⟩
theorem MKe.other (h : MKe t w0 w W b n ok v v' gs) (hm : MK t w0 w b n ok v gs2) {g : Nat} {cells : Array Value} {q : Nat} (hb : w.heap[g]? = some (.cells cells q (0, 0))) (hq : q ≠ t) (hq2 : q ≠ 114) : W.heap[g]? = some (.cells cells q (0, 0)) :=
 blk_kept hb h.kept (fun hk => hk.elim (fun e => by rw [e, hm.blk] at hb; cases hb; exact hq rfl) (fun e => by
  obtain ⟨cs, hcs⟩ := Kd.R_typed hm.row g e
  rw [hb] at hcs
  cases hcs
  exact hq2 rfl))
end
def and7_T : Bool × List (List Nat × List Nat) := (true, [([], []), ([0], [0]), ([1], [1]), ([2], [2]), ([], []), ([3, 4], [3, 4]), ([5, 5, 0, 1, 2, 3, 4, 5], [5])])
def and7_B : List Nat := [0, 1, 3, 7, 0, 31, 63]
theorem and7_tab : rtab .any (opsOf Try.f145 7) = and7_T := by kernel_rfl
theorem and7_bits : waitsOk and7_T.2 and7_B = true := by kernel_rfl
def and10_T : Bool × List (List Nat × List Nat) := (true, [([], []), ([], []), ([1], [1]), ([2], [2]), ([3], [3]), ([], []), ([5], [5]), ([4, 6], [4, 6]), ([0, 0, 1, 2, 3, 4, 5, 6, 7], [0]), ([8, 0, 1, 2, 3, 4, 5, 6, 7], [8]), ([9, 7, 7, 0, 1, 2, 3, 4, 5, 6, 7], [7, 9])])
def and10_B : List Nat := [0, 0, 2, 6, 14, 0, 32, 126, 1, 257, 1023]
theorem and10_tab : rtab .any (opsOf Try.f145 10) = and10_T := by kernel_rfl
theorem and10_bits : waitsOk and10_T.2 and10_B = true := by kernel_rfl
set_option maxHeartbeats 4000000 in
set_option maxRecDepth 100000 in
theorem and_any (Kf : Nat) (n x y : Int) (w0 w : World) (b : Nat) (ok : Nat → Prop) (v : Value) (gs : List S114) (r : Int) (gs' : List S114) (hm : MK 46 w0 w b n ok v gs) (h : andI Kf n x y gs = some (r, gs')) :
  Calls Try.prog 145 #[.pointer (some ⟨b, 0, none⟩), .int .i64 x, .int .i64 y] w fun e W' => e = .returned (.int .i64 r) ∧ ∃ v', MKe 46 w0 w W' b n ok v v' gs' := by
 have hu114 := Try.underlying114
 obtain ⟨a, ha⟩ : ∃ a, lo2 x y = a := ⟨_, rfl⟩
 obtain ⟨c, hc⟩ : ∃ c, hi2 x y = c := ⟨_, rfl⟩
 unfold andI at h
 rw [ha, hc] at h
 have hae : (if y < x then y else x) = a := ha
 have hce : (if x < y then y else x) = c := hc
 clear ha hc
 have HM := Aside0.mk hm
 clear hm
 go_enter Try.func145, Try.ntmps145
 go_upto_region 2 with fail
 clear hae hce
 by_cases h0 : a = 0
 ·rw [if_pos h0] at h
  have t0 : (a == 0) = true := beq_iff_eq.mpr h0
  clear h0
  cases h
  go_wp2
  go_ret
  exact ⟨rfl, _, HM.out.done (Below.refl _ _)⟩
 rw [if_neg h0] at h
 have t0 : (a == 0) = false := beq_eq_false_iff_ne.mpr h0
 by_cases h1 : a = bx c
 ·rw [if_pos h1] at h
  have t1 : (a == Go.bits .xor .i64 c 1) = true := beq_iff_eq.mpr h1
  clear h1
  cases h
  go_wp2
  go_ret
  exact ⟨rfl, _, HM.out.done (Below.refl _ _)⟩
 rw [if_neg h1] at h
 have t1 : (a == Go.bits .xor .i64 c 1) = false := beq_eq_false_iff_ne.mpr h1
 by_cases h2 : a = 1
 ·rw [if_pos h2] at h
  have t2 : (a == 1) = true := beq_iff_eq.mpr h2
  clear h2
  cases h
  go_wp2
  go_ret
  exact ⟨rfl, _, HM.out.done (Below.refl _ _)⟩
 rw [if_neg h2] at h
 have t2 : (a == 1) = false := beq_eq_false_iff_ne.mpr h2
 by_cases h3 : a = c
 ·rw [if_pos h3] at h
  have t3 : (a == c) = true := beq_iff_eq.mpr h3
  clear h3
  cases h
  go_wp2
  go_ret
  exact ⟨rfl, _, HM.out.done (Below.refl _ _)⟩
 rw [if_neg h3] at h
 have t3 : (a == c) = false := beq_eq_false_iff_ne.mpr h3
 clear h0 h1 h2 h3
 obtain ⟨at_, hix, h⟩ := Option.bind_eq_some_iff.1 h
 have HIX := Aside0.mk hix
 have HH := Aside0.mk h
 clear hix h
 go_upto_region 7 with (first
  | ((with_reducible refine gate_dst (N := 7) rfl ?_); refine box_event ?hg (N := 7) ?hd (cs := #[.int .i64 0, .int .i64 0]) (t := 114) ?hr ?_; (case hd => rfl); (case hg => rfl); (case hr => first | (go_simp; done) | (go_simp; rfl)); intro gb4 hgw wb4 hbox hbb; have hcz0 := (blk_cell hbox 0).trans (show _ = some (.int .i64 0) from rfl); have hfz0 := blk_frozen hbox 0; have hcz1 := (blk_cell hbox 1).trans (show _ = some (.int .i64 0) from rfl); have hfz1 := blk_frozen hbox 1; have hgw_ := Aside0.mk hgw; clear hgw; have hgw := hgw_; clear hgw_)
  | ((with_reducible refine gate_store (t := 114) (p := 7) rfl ?_); refine store_event (t := 114) (p := 7) (v := ?vo_7) (w1 := ((wb4.setCell ⟨gb4, 0, none⟩ (.int .i64 a)).setCell ⟨gb4, 1, none⟩ (.int .i64 c))) ?hg ?ho ?hn ?hr ?_; (case ho => rfl); (case hg => rfl); (case hn => rfl); (case hr => first | (go_simp; done) | (go_simp; rfl)); clear hcz0 hfz0 hcz1 hfz1; intro w4 hw_; obtain ⟨hbk, hb⟩ := box2n hgw.out hbox hbb; rw [← hw_] at hbk hb; clear hw_ hbox hbb; have HB4 := Aside0.mk hb; have HG4 := Aside0.mk hbk; have HGW := Aside0.mk hgw.out; clear hgw hb hbk))
 obtain ⟨Av, cv, ev⟩ := Kd.R_slice HM.out.row
 subst ev
 have HM4 := Aside0.mk (HM.out.below HB4.out)
 have hu_114 := Try.underlying114
 refine start_ (n := 7) (S := fun w' => w'.cell? ⟨b, 1, none⟩ = some (.slice Av gs.length cv) ∧ w'.cell? ⟨gb4, 0, none⟩ = some (.int .i64 a) ∧ w'.cell? ⟨gb4, 1, none⟩ = some (.int .i64 c)) (ds := []) #[false, false, false, false, false, false, false] (by kernel_rfl) rfl rfl ⟨HM4.out.cells.2, (blk_cell HG4.out 0).trans rfl, (blk_cell HG4.out 1).trans rfl⟩ (fun hHeld => ?_)
 refine with_tabW and7_tab and7_bits (fun HT_ HW_ => ?_)
 have j0_ := Aside0.mk (HM4.out.below (below_drew (Below.refl _ _)))
 have j1_ : Aside0 (w4.drew.heap[gb4]? = some (.cells #[.int .i64 a, .int .i64 c] 114 (0, 0))) := ⟨HG4.out⟩
 have j2_ := Aside0.mk (below_drew HB4.out)
 clear HM4 HG4 HB4
 generalize w4.drew = w20 at j0_ j1_ j2_ hHeld ⊢
 refine pure_ (i := 0) (N := some 36) (v := ?_) (a' := ?_) #[true, false, false, false, false, false, false] rfl rfl (any_of HT_.out (by kernel_rfl)) (fun _ _ _ h => h) (Or.inl ⟨by rfl, ?_⟩) ?_ ?_
 rotate_left
 ·intro w'
  go_simp
  with_reducible rfl
 rotate_left
 ·simp only [Act.put, List.setIfInBounds_toArray, List.set_cons_zero, List.set_cons_succ, i64_w, i32_w]
  rfl
 refine pure_ (i := 1) (N := some 37) (v := ?_) (a' := ?_) #[true, true, false, false, false, false, false] rfl rfl (any_of HT_.out (by kernel_rfl)) (fun _ _ _ h => h) (Or.inl ⟨by rfl, ?_⟩) ?_ ?_
 rotate_left
 ·intro w'
  go_simp
  with_reducible rfl
 rotate_left
 ·simp only [Act.put, List.setIfInBounds_toArray, List.set_cons_zero, List.set_cons_succ, i64_w, i32_w]
  rfl
 refine pure_ (i := 2) (N := some 38) (v := ?_) (a' := ?_) #[true, true, true, false, false, false, false] rfl rfl (any_of HT_.out (by kernel_rfl)) (fun _ _ _ h => h) (Or.inl ⟨by rfl, ?_⟩) ?_ ?_
 rotate_left
 ·intro w'
  go_simp
  with_reducible rfl
 rotate_left
 ·simp only [Act.put, List.setIfInBounds_toArray, List.set_cons_zero, List.set_cons_succ, i64_w, i32_w]
  rfl
 refine take_ (i := 3) (N := some 39) (v := ?_) (a' := ?_) #[true, true, true, true, false, false, false] rfl rfl (take_ofW HT_.out HW_.out (by kernel_rfl)) (fun _ _ _ h => h) (Or.inl ⟨by rfl, ?_⟩) hHeld ?_ ?_
 rotate_left
 ·rintro w' ⟨s0, s1, s2⟩
  go_simp
  with_reducible rfl
 rotate_left
 ·simp only [Act.put, List.setIfInBounds_toArray, List.set_cons_zero, List.set_cons_succ, i64_w, i32_w]
  rfl
 refine take_ (i := 4) (N := some 40) (v := ?_) (a' := ?_) #[true, true, true, true, true, false, false] rfl rfl (take_ofW HT_.out HW_.out (by kernel_rfl)) (fun _ _ _ h => h) (Or.inl ⟨by rfl, ?_⟩) hHeld ?_ ?_
 rotate_left
 ·rintro w' ⟨s0, s1, s2⟩
  go_simp
  with_reducible rfl
 rotate_left
 ·simp only [Act.put, List.setIfInBounds_toArray, List.set_cons_zero, List.set_cons_succ, i64_w, i32_w]
  rfl
 refine one_ (i := 5) (N := some 41) #[true, true, true, true, true, true, false] rfl rfl (one_of HT_.out (by kernel_rfl)) (by decide) (fun K hK => ?_)
 refine call_ 138 #[.slice Av gs.length cv, .agg #[.int .i64 a, .int .i64 c]] (by rfl) rfl ?hrun5 ?h5
 case hrun5 =>
  have he := enters_of Try.func138 (by kernel_rfl) rfl
  unfold execOp
  simp [resolve, Deferred.ofValue, invoke, Act.eval, he]
 refine (impl_Gate.calls Kf Av cv gs a c at_ w20 (Kd.R_reads' j0_.out.row).2.2 (Kd.R_reads' j0_.out.row).2.1 HIX.out).mono ?_
 rintro e w21 ⟨rfl, hb⟩
 have n0_ := Aside0.mk (j0_.out.below hb)
 have n1_ := Aside0.mk (blk_below j1_.out hb)
 have n2_ := Aside0.mk (j2_.out.trans (hb.mono j2_.out.size))
 clear j0_ j1_ j2_ hb
 refine ⟨_, rfl, ?_⟩
 refine hK.out _ _ ⟨n0_.out.cells.2, (blk_cell n1_.out 0).trans rfl, (blk_cell n1_.out 1).trans rfl⟩ (fun hHeld => ?_)
 clear hK K
 refine norm_ (a' := ?_) ?_ ?_
 rotate_left
 ·show Act.put _ (some 41) _ = _
  simp only [Act.put, List.setIfInBounds_toArray, List.set_cons_zero, List.set_cons_succ, i64_w, i32_w]
  rfl
 refine pure_ (i := 6) (N := some 8) (v := ?_) (a' := ?_) #[true, true, true, true, true, true, true] rfl rfl (any_of HT_.out (by kernel_rfl)) (fun _ _ _ h => h) (Or.inl ⟨by rfl, ?_⟩) ?_ ?_
 rotate_left
 ·intro w'
  go_simp
  with_reducible rfl
 rotate_left
 ·simp only [Act.put, List.setIfInBounds_toArray, List.set_cons_zero, List.set_cons_succ, i64_w, i32_w]
  rfl
 refine done_ (done_of HT_.out (by kernel_rfl)) ?_
 clear hHeld HT_ HW_
 have h := HH.out
 have x0 := n0_.out.cells.1
 have x1 := n0_.out.cells.2
 by_cases hat : at_ < 0
 rotate_left
 ·rw [if_neg hat] at h
  cases h
  go_wp2
  go_ret
  exact ⟨rfl, _, HM.out.done n2_.out⟩
 rw [if_pos hat] at h
 by_cases hl : gs.length ≤ 100000
 rotate_left
 ·rw [if_neg hl] at h; cases h
 rw [if_pos hl] at h
 cases h
 have HL := Aside0.mk hl
 clear hl
 go_upto_region 10 with fail
 clear x0 x1
 refine start_ (n := 11) (S := fun w' => w'.cell? ⟨b, 1, none⟩ = some (.slice Av gs.length cv) ∧ w'.cell? ⟨gb4, 0, none⟩ = some (.int .i64 a) ∧ w'.cell? ⟨gb4, 1, none⟩ = some (.int .i64 c)) (ds := [10]) #[false, false, false, false, false, false, false, false, false, false, false] (by kernel_rfl) rfl rfl ⟨n0_.out.cells.2, (blk_cell n1_.out 0).trans rfl, (blk_cell n1_.out 1).trans rfl⟩ (fun hHeld => ?_)
 refine with_tabW and10_tab and10_bits (fun HT_ HW_ => ?_)
 have j0_ := Aside0.mk (n0_.out.below (below_drew (Below.refl _ _)))
 have j1_ : Aside0 (w21.drew.heap[gb4]? = some (.cells #[.int .i64 a, .int .i64 c] 114 (0, 0))) := ⟨n1_.out⟩
 have j2_ := Aside0.mk (below_drew n2_.out)
 clear n0_ n1_ n2_
 generalize w21.drew = w22 at j0_ j1_ j2_ hHeld ⊢
 refine pure_ (i := 0) (N := some 49) (v := ?_) (a' := ?_) #[true, false, false, false, false, false, false, false, false, false, false] rfl rfl (any_of HT_.out (by kernel_rfl)) (fun _ _ _ h => h) (Or.inl ⟨by rfl, ?_⟩) ?_ ?_
 rotate_left
 ·intro w'
  go_simp
  with_reducible rfl
 rotate_left
 ·simp only [Act.put, List.setIfInBounds_toArray, List.set_cons_zero, List.set_cons_succ, i64_w, i32_w]
  rfl
 refine pure_ (i := 1) (N := some 50) (v := ?_) (a' := ?_) #[true, true, false, false, false, false, false, false, false, false, false] rfl rfl (any_of HT_.out (by kernel_rfl)) (fun _ _ _ h => h) (Or.inl ⟨by rfl, ?_⟩) ?_ ?_
 rotate_left
 ·intro w'
  go_simp
  with_reducible rfl
 rotate_left
 ·simp only [Act.put, List.setIfInBounds_toArray, List.set_cons_zero, List.set_cons_succ, i64_w, i32_w]
  rfl
 refine pure_ (i := 2) (N := some 51) (v := ?_) (a' := ?_) #[true, true, true, false, false, false, false, false, false, false, false] rfl rfl (any_of HT_.out (by kernel_rfl)) (fun _ _ _ h => h) (Or.inl ⟨by rfl, ?_⟩) ?_ ?_
 rotate_left
 ·intro w'
  go_simp
  with_reducible rfl
 rotate_left
 ·simp only [Act.put, List.setIfInBounds_toArray, List.set_cons_zero, List.set_cons_succ, i64_w, i32_w]
  rfl
 refine pure_ (i := 3) (N := some 52) (v := ?_) (a' := ?_) #[true, true, true, true, false, false, false, false, false, false, false] rfl rfl (any_of HT_.out (by kernel_rfl)) (fun _ _ _ h => h) (Or.inl ⟨by rfl, ?_⟩) ?_ ?_
 rotate_left
 ·intro w'
  go_simp
  with_reducible rfl
 rotate_left
 ·simp only [Act.put, List.setIfInBounds_toArray, List.set_cons_zero, List.set_cons_succ, i64_w, i32_w]
  rfl
 refine take_ (i := 4) (N := some 53) (v := ?_) (a' := ?_) #[true, true, true, true, true, false, false, false, false, false, false] rfl rfl (take_ofW HT_.out HW_.out (by kernel_rfl)) (fun _ _ _ h => h) (Or.inl ⟨by rfl, ?_⟩) hHeld ?_ ?_
 rotate_left
 ·rintro w' ⟨s0, s1, s2⟩
  go_simp
  with_reducible rfl
 rotate_left
 ·simp only [Act.put, List.setIfInBounds_toArray, List.set_cons_zero, List.set_cons_succ, i64_w, i32_w]
  rfl
 refine take_ (i := 5) (N := some 54) (v := ?_) (a' := ?_) #[true, true, true, true, true, true, false, false, false, false, false] rfl rfl (take_ofW HT_.out HW_.out (by kernel_rfl)) (fun _ _ _ h => h) (Or.inl ⟨by rfl, ?_⟩) hHeld ?_ ?_
 rotate_left
 ·rintro w' ⟨s0, s1, s2⟩
  go_simp
  with_reducible rfl
 rotate_left
 ·simp only [Act.put, List.setIfInBounds_toArray, List.set_cons_zero, List.set_cons_succ, i64_w, i32_w]
  rfl
 refine one_ (i := 6) (N := some 55) #[true, true, true, true, true, true, true, false, false, false, false] rfl rfl (one_of HT_.out (by kernel_rfl)) (by decide) (fun K hK => ?_)
 refine value_ (w1 := ?_) (v := ?_) (by rfl) rfl ?_ ?_
 rotate_left 2
 ·go_simp
  constructor
  ·rfl
  ·rfl
 refine hK.out _ _ ⟨(blk_cell (blk_alloc j0_.out.blk _) 1).trans rfl, (blk_cell (blk_alloc j1_.out _) 0).trans rfl, (blk_cell (blk_alloc j1_.out _) 1).trans rfl⟩ (fun hHeld => ?_)
 clear hK K
 refine norm_ (a' := ?_) ?_ ?_
 rotate_left
 ·show Act.put _ (some 55) _ = _
  simp only [Act.put, List.setIfInBounds_toArray, List.set_cons_zero, List.set_cons_succ, i64_w, i32_w]
  rfl
 refine one_ (i := 7) (N := some 56) #[true, true, true, true, true, true, true, true, false, false, false] rfl rfl (one_of HT_.out (by kernel_rfl)) (by decide) (fun K hK => ?_)
 have HLT := Aside0.mk (show ∀ k, (Value.slice Av gs.length cv).ownBlock = some k → k < w.heap.size from fun k hk => Kd.R_lt HM.out.row k hk)
 refine Kd.R_append_step k114 (w0 := w0) w0.heap.size (by rfl) (.tmp 53) (.tmp 55) 44 114 (.agg #[.int .i64 0, .int .i64 0]) 16 rfl Try.underlying44 inf114 rfl (by decide) (by omega) (.slice Av gs.length cv) gs (⟨a, c⟩ : S114) [.int .i64 a, .int .i64 c] (RK ok w) (fun _ => False) rfl rfl ?aP (fun _ hk => hk.elim) ?aF ?aO ?aB ?aS ?aL ?_
 case aP => exact ⟨_, _, rfl, rfl, rfl⟩
 case aF => exact fun k hk => .inr (Nat.le_trans j2_.out.size hk)
 case aO => exact Kd.R_mono j0_.out.row (fun k hk => .inl hk)
 case aB => exact j0_.out.base
 case aS => exact j0_.out.base.size
 case aL => have := HL.out; omega
 intro v1 w23 ho hb hg hat
 obtain ⟨A1, c1_, e1_⟩ := Kd.R_slice ho
 rw [show (gs ++ [(⟨a, c⟩ : S114)]).length = gs.length + 1 by simp] at e1_
 subst e1_
 have m0_ := Aside0.mk (blk_grown j0_.out.blk hg (Kd.R_ne j0_.out.row j0_.out.blk (by decide)))
 have m1_ := Aside0.mk (blk_grown j1_.out hg (fun e => by have h9 := HLT.out gb4 e.symm; have := HGW.out; omega))
 have m2_ := Aside0.mk ho
 have m3_ := Aside0.mk hb
 have m4_ : Aside0 (Kept w w23 (GW b (.slice Av gs.length cv))) := ⟨Kept.of_grown hg (Kept.of_below j2_.out _) (fun k hk => .inl (.inr hk))⟩
 have m5_ : Aside0 ((Value.slice A1 (gs.length + 1) c1_).ownBlock = (Value.slice Av gs.length cv).ownBlock ∨ ∃ k, (Value.slice A1 (gs.length + 1) c1_).ownBlock = some k ∧ w.heap.size ≤ k) := ⟨hat.imp id (fun ⟨k, h1, h2⟩ => ⟨k, h1, Nat.le_trans j2_.out.size h2⟩)⟩
 clear j0_ j1_ j2_ ho hb hg hat
 refine hK.out _ _ ⟨(blk_cell m0_.out 1).trans rfl, (blk_cell m1_.out 0).trans rfl, (blk_cell m1_.out 1).trans rfl⟩ (fun hHeld => ?_)
 clear hK K
 refine norm_ (a' := ?_) ?_ ?_
 rotate_left
 ·show Act.put _ (some 56) _ = _
  simp only [Act.put, List.setIfInBounds_toArray, List.set_cons_zero, List.set_cons_succ, i64_w, i32_w]
  rfl
 refine pure_ (i := 8) (N := some 57) (v := ?_) (a' := ?_) #[true, true, true, true, true, true, true, true, true, false, false] rfl rfl (any_of HT_.out (by kernel_rfl)) (fun _ _ _ h => h) (Or.inl ⟨by rfl, ?_⟩) ?_ ?_
 rotate_left
 ·intro w'
  go_simp
  with_reducible rfl
 rotate_left
 ·simp only [Act.put, List.setIfInBounds_toArray, List.set_cons_zero, List.set_cons_succ, i64_w, i32_w]
  rfl
 refine pure_ (i := 9) (N := some 58) (v := ?_) (a' := ?_) #[true, true, true, true, true, true, true, true, true, true, false] rfl rfl (any_of HT_.out (by kernel_rfl)) (fun _ _ _ h => h) (Or.inl ⟨by rfl, ?_⟩) ?_ ?_
 rotate_left
 ·intro w'
  go_simp
  with_reducible rfl
 rotate_left
 ·simp only [Act.put, List.setIfInBounds_toArray, List.set_cons_zero, List.set_cons_succ, i64_w, i32_w]
  rfl
 refine last_ (i := 10) (N := none) #[true, true, true, true, true, true, true, true, true, true, true] rfl rfl (one_of HT_.out (by kernel_rfl)) (by decide) (fun K hK => ?_)
 have hs1 : w23.cell? ⟨b, 1, none⟩ = some (.slice Av gs.length cv) := (blk_cell m0_.out 1).trans rfl
 have hfs1 := blk_frozen m0_.out 1
 refine skip_ (w1 := ?_) (by rfl) rfl ?_ ?_
 rotate_left
 ·go_simp
  rfl
 refine hK.out _ _ ?_
 clear hK K
 refine done_ (done_of HT_.out (by kernel_rfl)) ?_
 clear hs1 hfs1
 have k0_ := Aside0.mk (show (w23.setCell ⟨b, 1, none⟩ (.slice A1 (gs.length + 1) c1_)).heap[b]? = some (.cells #[.int .i64 n, .slice A1 (gs.length + 1) c1_] 46 (0, 0)) from heap_set m0_.out)
 have k1_ := Aside0.mk (Kd.R_set m2_.out m0_.out (by decide) 1 (.slice A1 (gs.length + 1) c1_))
 have k2_ := Aside0.mk (m3_.out.setCell (p := ⟨b, 1, none⟩) HM.out.old (.slice A1 (gs.length + 1) c1_))
 have k3_ := Aside0.mk (m4_.out.setCell (p := ⟨b, 1, none⟩) (.inl (.inl rfl)) (.slice A1 (gs.length + 1) c1_))
 clear m0_ m1_ m2_ m3_ m4_
 generalize w23.setCell ⟨b, 1, none⟩ (.slice A1 (gs.length + 1) c1_) = w24 at k0_ k1_ k2_ k3_ ⊢
 have x0 := (blk_cell k0_.out 0).trans (show _ = some (.int .i64 n) from rfl)
 go_wp2
 go_ret
 exact ⟨rfl, _, ⟨⟨k2_.out, HM.out.old, k0_.out, k1_.out⟩, k3_.out, m5_.out⟩⟩
end Go.Proofs.Ytcmkkoggdcjceaa.PFnExactBuildAig
end
section
namespace Go.Proofs.Ytcmkkoggdcjceaa.PFnExactBuildAig
open Go.RowKit Go.Proofs.YtcmkkoggdcjceaaW.PrintWords Go.Proofs.YtcmkkoggdcjceaaW.PrintLast Go.Proofs.YtcmkkoggdcjceaaW.PrintMore
attribute [local go_sem] max2_int min2_int max_two min_two max_three min_three max_four min_four   -- for this text's walks alone
set_option linter.unusedVariables false
set_option linter.unusedSimpArgs false
theorem or_any (Kf : Nat) (n x y : Int) (w0 w : World) (b : Nat) (ok : Nat → Prop) (v : Value) (gs : List S114) (r : Int) (gs' : List S114) (hm : MK 46 w0 w b n ok v gs) (h : orI Kf n x y gs = some (r, gs')) :
  Calls Try.prog 146 #[.pointer (some ⟨b, 0, none⟩), .int .i64 x, .int .i64 y] w fun e W' => e = .returned (.int .i64 r) ∧ ∃ v', MKe 46 w0 w W' b n ok v v' gs' := by
 unfold orI at h
 obtain ⟨⟨r1, g1⟩, h1, h2⟩ := Option.bind_eq_some_iff.1 h
 cases h2
 have hcall := and_any Kf n (bx x) (bx y) w0 w b ok v gs r1 _ hm h1
 clear h h1
 go_enter Try.func146, Try.ntmps146
 go_wp2_with (go_at_call 145; refine hcall.mono ?_; rintro e w1 ⟨rfl, hv⟩; have HV := Aside0.mk hv; clear hcall hv)
 go_ret
 exact ⟨rfl, HV.out⟩
section
variable {t : Nat} {w0 w W W2 : World} {b : Nat} {n : Int} {ok : Nat → Prop} {v v' v2 : Value} {gs gs2 : List S114}
theorem MKe.below (h : MKe t w0 w W b n ok v v' gs) (hb : Below W.heap.size W W2) : MKe t w0 w W2 b n ok v v' gs := ⟨h.now_.below hb, h.kept.below hb, h.own⟩
theorem MKe.setBox (h : MKe t w0 w W b n ok v v' gs) {g : Nat} {cells : Array Value} {q : Nat} (hb : W.heap[g]? = some (.cells cells q (0, 0))) (hq : q ≠ t) (hq2 : (114 : Nat) ≠ q) (hw : w.heap.size ≤ g) (hw0 : w0.heap.size ≤ g) (j : Nat) (u : Value) : MKe t w0 w (W.setCell ⟨g, j, none⟩ u) b n ok v v' gs :=
 ⟨⟨h.now_.base.setCell (p := ⟨g, j, none⟩) hw0 u, h.now_.old, (Below.heap_setCell W ⟨g, j, none⟩ u b (fun e => by have e2 : b = g := e; have h9 := h.now_.blk; rw [e2, hb] at h9; cases h9; exact hq rfl)).trans h.now_.blk, Kd.R_set h.now_.row hb (fun z hz => by have hz2 : z ∈ [114] := hz; rw [List.mem_singleton.1 hz2]; exact hq2) j u⟩, h.kept.setCell (p := ⟨g, j, none⟩) (.inr hw) u, h.own⟩
end
theorem box3n {t : Nat} {W wb : World} {gb : Nat} {z1 z2 z3 a b v : Value} (hg : gb = W.heap.size) (hbox : wb.heap[gb]? = some (.cells #[z1, z2, z3] t (0, 0))) (hb : Below W.heap.size W wb) : (((wb.setCell ⟨gb, 0, none⟩ a).setCell ⟨gb, 1, none⟩ b).setCell ⟨gb, 2, none⟩ v).heap[gb]? = some (.cells #[a, b, v] t (0, 0)) ∧ Below W.heap.size W (((wb.setCell ⟨gb, 0, none⟩ a).setCell ⟨gb, 1, none⟩ b).setCell ⟨gb, 2, none⟩ v) :=
 ⟨heap_set (heap_set (heap_set hbox)), below_set (below_set (below_set hb (Nat.le_of_eq hg.symm)) (Nat.le_of_eq hg.symm)) (Nat.le_of_eq hg.symm)⟩
def kidI (go : Int → Int → List S31 → List S114 → Option (Int × List S114)) : List S31 → Nat → (Nat → Int) → List S114 → Option ((Nat → Int) × List S114)
 | [], _, kf, gs => some (kf, gs)
 | x :: r, i, kf, gs => (go x.f0 x.f1 x.f2 gs).bind fun p => kidI go r (i + 1) (fun j => if j = i then p.1 else kf j) p.2
def endI (K : Nat) (n kind num : Int) (kf : Nat → Int) (gs : List S114) : Option (Int × List S114) :=
 if kind = 1 then some (wrap64 (wrap64 (2 * num) + 2), gs) else if kind = 2 then some (num, gs) else if kind = 3 then some (bx (kf 0), gs) else if kind = 4 then andI K n (kf 0) (kf 1) gs else if kind = 5 then orI K n (kf 0) (kf 1) gs else if kind = 6 then (andI K n (kf 0) (bx (kf 1)) gs).bind fun p => (andI K n (bx (kf 0)) (kf 1) p.2).bind fun q => orI K n p.1 q.1 q.2 else (andI K n (kf 0) (kf 1) gs).bind fun p => (andI K n (bx (kf 0)) (kf 2) p.2).bind fun q => orI K n p.1 q.1 q.2
def bldI (K : Nat) (n : Int) : Nat → Int → Int → List S31 → List S114 → Option (Int × List S114)
 | 0, _, _, _, _ => none
 | f + 1, kind, num, kids, gs => if kids.length ≤ 3 then (kidI (bldI K n f) kids 0 (fun _ => 0) gs).bind fun p => endI K n kind num p.1 p.2 else none
set_option maxHeartbeats 8000000 in
set_option maxRecDepth 100000 in
theorem build_any (Kf : Nat) (n : Int) (w0 : World) (b : Nat) : ∀ (f : Nat) (kind num : Int) (A : Option Addr) (c : Nat) (kids : List S31) (ok : Nat → Prop) (v : Value) (gs : List S114) (r : Int) (gs' : List S114) (w : World), Kd.C k31 w0 A kids.length kids → kids.length ≤ c → MK 46 w0 w b n ok v gs → bldI Kf n f kind num kids gs = some (r, gs') →
  Calls Try.prog 135 #[.pointer (some ⟨b, 0, none⟩), .agg #[.int .i64 kind, .int .i64 num, .slice A kids.length c]] w fun e W' => e = .returned (.int .i64 r) ∧ ∃ v', MKe 46 w0 w W' b n ok v v' gs' := by
 intro f
 induction f with
 | zero => intro kind num A c kids ok v gs r gs' w _ _ _ h; simp [bldI] at h
 | succ f ih =>
  intro kind num A c kids ok v gs r gs' w hC hc hm h
  have hu31 := Try.underlying31
  have hu153 := Try.underlying153
  rw [bldI] at h
  by_cases hk3 : kids.length ≤ 3
  rotate_left
  ·rw [if_neg hk3] at h; cases h
  rw [if_pos hk3] at h
  obtain ⟨q, hkid, hend⟩ := Option.bind_eq_some_iff.1 h
  have HKD := Aside0.mk hkid
  have HEND := Aside0.mk hend
  have HC := Aside0.mk hC
  have HM := Aside0.mk hm
  have IH := Aside0.mk ih
  clear h hkid hend hC hm ih
  obtain ⟨g, hg⟩ : ∃ g, w.heap.size = g := ⟨_, rfl⟩
  go_enter Try.func135, Try.ntmps135
  go_upto_region 2 with fail
  have hb2 : Below w.heap.size w ((w.alloc (.cells #[.int .i64 kind, .int .i64 num, .slice A kids.length c] 31)).alloc (.cells #[.int .i64 0, .int .i64 0, .int .i64 0] 153)) := below_alloc (below_alloc (Below.refl _ _) _) _
  have k1 : ((w.alloc (.cells #[.int .i64 kind, .int .i64 num, .slice A kids.length c] 31)).alloc (.cells #[.int .i64 0, .int .i64 0, .int .i64 0] 153)).heap[g]? = some (.cells #[.int .i64 kind, .int .i64 num, .slice A kids.length c] 31 (0, 0)) := by rw [← hg]; exact blk_alloc (blk_new w _) _
  have k2 : ((w.alloc (.cells #[.int .i64 kind, .int .i64 num, .slice A kids.length c] 31)).alloc (.cells #[.int .i64 0, .int .i64 0, .int .i64 0] 153)).heap[g + 1]? = some (.cells #[.int .i64 0, .int .i64 0, .int .i64 0] 153 (0, 0)) := by
   have := blk_new (w.alloc (.cells #[.int .i64 kind, .int .i64 num, .slice A kids.length c] 31)) (.cells #[.int .i64 0, .int .i64 0, .int .i64 0] 153)
   rwa [show (w.alloc (.cells #[.int .i64 kind, .int .i64 num, .slice A kids.length c] 31)).heap.size = g + 1 by rw [← hg]; show (w.heap.push _).size = _; simp] at this
  generalize (w.alloc (.cells #[.int .i64 kind, .int .i64 num, .slice A kids.length c] 31)).alloc (.cells #[.int .i64 0, .int .i64 0, .int .i64 0] 153) = w2 at hb2 k1 k2 ⊢
  have x2 := (blk_cell k1 2).trans (show _ = some (.slice A kids.length c) from rfl)
  have HG := Aside0.mk hg
  have HE := Aside0.mk k1
  have HKB := Aside0.mk k2
  have HME := Aside0.mk (HM.out.done hb2)
  clear hg hb2 k1 k2
  go_wp2
  clear x2
  go_loopg [13] kids.length (fun gg v13 wr => ∃ (i : Nat) (kf : Nat → Int) (vi : Value) (gi : List S114), v13 = .int .i64 i ∧ i ≤ kids.length ∧ kids.length - i ≤ gg ∧ Aside0 (kidI (bldI Kf n f) (kids.drop i) i kf gi = some q) ∧ Aside0 (MKe 46 w0 w wr b n ok v vi gi) ∧ Aside0 (wr.heap[g]? = some (.cells #[.int .i64 kind, .int .i64 num, .slice A kids.length c] 31 (0, 0))) ∧ Aside0 (wr.heap[g + 1]? = some (.cells #[.int .i64 (kf 0), .int .i64 (kf 1), .int .i64 (kf 2)] 153 (0, 0))))
  case atStart => exact ⟨0, fun _ => 0, v, gs, rfl, Nat.zero_le _, by omega, HKD, HME, HE, HKB⟩
  case round =>
   clear HKD HME HE HKB
   obtain ⟨i, kf, vi, gi, rfl, hi, hgk, HKD, HME, HE, HKB⟩ := hrel
   by_cases hlt : i < kids.length
   ·have hltz : (i : Int) < (kids.length : Int) := by omega
    have h0z : (0 : Int) ≤ (i : Int) := by omega
    have hi3 : (i : Int) < 3 := by omega
    have hi3n : i < 3 := by omega
    obtain ⟨ad, A2, c2, ea, hx0, hx1, hx2, hlc2, hC2⟩ := at_T31 HC.out (i : Int) h0z hltz
    subst ea
    have hrd : rd_T31 kids (i : Int) = kids[i] := by unfold rd_T31; simp [List.getD, hlt]
    rw [Int.toNat_natCast, hrd] at hx0 hx1 hx2
    rw [hrd] at hlc2 hC2
    replace hx0 := (HME.out.now_.base.cell (World.block_lt_of_cell? w0 _ hx0)).trans hx0
    replace hx1 := (HME.out.now_.base.cell (World.block_lt_of_cell? w0 _ hx1)).trans hx1
    replace hx2 := (HME.out.now_.base.cell (World.block_lt_of_cell? w0 _ hx2)).trans hx2
    have hkd := HKD.out
    rw [List.drop_eq_getElem_cons hlt, kidI] at hkd
    obtain ⟨⟨p1, p2⟩, hgo, hkd2⟩ := Option.bind_eq_some_iff.1 hkd
    simp only at hkd2
    have HGO := Aside0.mk hgo
    have HKD2 := Aside0.mk hkd2
    have HC2 := Aside0.mk (And.intro hC2 hlc2)
    clear hkd hgo hkd2 hC2 hlc2 hrd HKD
    generalize kids[i] = x at hx0 hx1 hx2 HGO HC2
    have ew : IntKind.i64.wrap ((i : Int) + 1) = ((i + 1 : Nat) : Int) := IntWalk.i64_in _ (by omega)
    go_upto_region 5 with (first
     | ((with_reducible refine gate_dst (N := 7) rfl ?_); refine box_event ?hg (N := 7) ?hd (cs := #[.int .i64 0, .int .i64 0, .slice none 0 0]) (t := 31) ?hr ?_; (case hd => rfl); (case hg => rfl); (case hr => first | (go_simp; done) | (go_simp; rfl)); intro gb4 hgw wb4 hbox hbb; have hcz0 := (blk_cell hbox 0).trans (show _ = some (.int .i64 0) from rfl); have hfz0 := blk_frozen hbox 0; have hcz1 := (blk_cell hbox 1).trans (show _ = some (.int .i64 0) from rfl); have hfz1 := blk_frozen hbox 1; have hcz2 := (blk_cell hbox 2).trans (show _ = some (.slice none 0 0) from rfl); have hfz2 := blk_frozen hbox 2; have hgw_ := Aside0.mk hgw; clear hgw; have hgw := hgw_; clear hgw_)
     | ((with_reducible refine gate_store (t := 31) (p := 7) rfl ?_); refine store_event (t := 31) (p := 7) (v := ?vo_7) (w1 := (((wb4.setCell ⟨gb4, 0, none⟩ (.int .i64 x.f0)).setCell ⟨gb4, 1, none⟩ (.int .i64 x.f1)).setCell ⟨gb4, 2, none⟩ (.slice A2 x.f2.length c2))) ?hg ?ho ?hn ?hr ?_; (case ho => rfl); (case hg => rfl); (case hn => rfl); (case hr => first | (go_simp; done) | (go_simp; rfl)); clear hcz0 hfz0 hcz1 hfz1 hcz2 hfz2; intro w5 hw_; obtain ⟨hbk, hb⟩ := box3n hgw.out hbox hbb; rw [← hw_] at hbk hb; clear hw_ hbox hbb; have HM5 := Aside0.mk (HME.out.below hb); have HE5 := Aside0.mk (blk_below HE.out hb); have HK5 := Aside0.mk (blk_below HKB.out hb); have HG5 := Aside0.mk hbk; clear hgw hb hbk hx0 hx1 hx2))
    have y0 := (blk_cell HG5.out 0).trans (show _ = some (.int .i64 x.f0) from rfl)
    have y1 := (blk_cell HG5.out 1).trans (show _ = some (.int .i64 x.f1) from rfl)
    have y2 := (blk_cell HG5.out 2).trans (show _ = some (.slice A2 x.f2.length c2) from rfl)
    have hgo := IH.out x.f0 x.f1 A2 c2 x.f2 (RK ok w) vi gi p1 p2 w5 HC2.out.1 HC2.out.2 HM5.out.now_ HGO.out
    go_upto_region 6 with (go_at_call 135; refine hgo.mono ?_; rintro e w6 ⟨rfl, v6, hm6⟩; clear hgo; have HM6 := Aside0.mk (HM5.out.trans hm6); have HE6 := Aside0.mk (hm6.other HM5.out.now_ HE5.out (by decide) (by decide)); have HK6 := Aside0.mk (hm6.other HM5.out.now_ HK5.out (by decide) (by decide)); clear y0 y1 y2 hm6 HM5 HE5 HK5; have z1 := blk_frozen HK6.out i; have z0 := (blk_cell HK6.out i).trans (show _ = some (.int .i64 (kf i)) from (by match i, hi3n with | 0, _ => rfl | 1, _ => rfl | 2, _ => rfl)))
    have HM7 := Aside0.mk (HM6.out.setBox HK6.out (by decide) (by decide) (by rw [HG.out]; exact Nat.le_succ g) (by have := HM.out.base.size; have := HG.out; omega) i (.int .i64 p1))
    have HE7 := Aside0.mk ((Below.heap_setCell w6 ⟨g + 1, i, none⟩ (.int .i64 p1) g (by show g ≠ g + 1; omega)).trans HE6.out)
    have hk7 := heap_set (j := i) (u := .int .i64 p1) HK6.out
    have HK7 := Aside0.mk (show (w6.setCell ⟨g + 1, i, none⟩ (.int .i64 p1)).heap[g + 1]? = some (.cells #[.int .i64 ((fun j => if j = i then p1 else kf j) 0), .int .i64 ((fun j => if j = i then p1 else kf j) 1), .int .i64 ((fun j => if j = i then p1 else kf j) 2)] 153 (0, 0)) from by
     rw [hk7]
     match i, hi3n with
     | 0, _ => rfl
     | 1, _ => rfl
     | 2, _ => rfl)
    clear hk7 HM6 HE6 HK6 z0 z1
    generalize w6.setCell ⟨g + 1, i, none⟩ (.int .i64 p1) = w7 at HM7 HE7 HK7 ⊢
    go_wp2
    go_roundg (gk - 1)
    case measure => omega
    case rel => exact ⟨i + 1, fun j => if j = i then p1 else kf j, v6, p2, rfl, by omega, by omega, HKD2, HM7, HE7, HK7⟩
   ·obtain rfl : i = kids.length := by omega
    have hkd := HKD.out
    rw [List.drop_length, kidI] at hkd
    cases hkd
    have hend := HEND.out
    unfold endI at hend
    simp only at hend
    have y0 := (blk_cell HE.out 0).trans (show _ = some (.int .i64 kind) from rfl)
    have y1 := (blk_cell HE.out 1).trans (show _ = some (.int .i64 num) from rfl)
    have z0 := (blk_cell HKB.out 0).trans (show _ = some (.int .i64 (kf 0)) from rfl)
    have z1 := (blk_cell HKB.out 1).trans (show _ = some (.int .i64 (kf 1)) from rfl)
    have z2 := (blk_cell HKB.out 2).trans (show _ = some (.int .i64 (kf 2)) from rfl)
    clear HEND HKD hlt
    by_cases h1 : kind = 1
    ·rw [if_pos h1] at hend
     have t1 : (kind == 1) = true := beq_iff_eq.mpr h1
     clear h1
     cases hend
     go_wp2
     go_ret
     exact ⟨rfl, _, HME.out⟩
    rw [if_neg h1] at hend
    have t1 : (kind == 1) = false := beq_eq_false_iff_ne.mpr h1
    clear h1
    by_cases h2 : kind = 2
    ·rw [if_pos h2] at hend
     have t2 : (kind == 2) = true := beq_iff_eq.mpr h2
     clear h2
     cases hend
     go_wp2
     go_ret
     exact ⟨rfl, _, HME.out⟩
    rw [if_neg h2] at hend
    have t2 : (kind == 2) = false := beq_eq_false_iff_ne.mpr h2
    clear h2
    by_cases h3 : kind = 3
    ·rw [if_pos h3] at hend
     have t3 : (kind == 3) = true := beq_iff_eq.mpr h3
     clear h3
     cases hend
     go_wp2
     go_ret
     exact ⟨rfl, _, HME.out⟩
    rw [if_neg h3] at hend
    have t3 : (kind == 3) = false := beq_eq_false_iff_ne.mpr h3
    clear h3
    by_cases h4 : kind = 4
    ·rw [if_pos h4] at hend
     have t4 : (kind == 4) = true := beq_iff_eq.mpr h4
     clear h4
     have hcall := and_any Kf n (kf 0) (kf 1) w0 wr b (RK ok w) vi _ r gs' HME.out.now_ hend
     clear hend
     go_wp2_with (go_at_call 145; refine hcall.mono ?_; rintro e w8 ⟨rfl, v8, hm8⟩; have HM8 := Aside0.mk (HME.out.trans hm8); clear hcall hm8)
     go_ret
     exact ⟨rfl, _, HM8.out⟩
    rw [if_neg h4] at hend
    have t4 : (kind == 4) = false := beq_eq_false_iff_ne.mpr h4
    clear h4
    by_cases h5 : kind = 5
    ·rw [if_pos h5] at hend
     have t5 : (kind == 5) = true := beq_iff_eq.mpr h5
     clear h5
     have hcall := or_any Kf n (kf 0) (kf 1) w0 wr b (RK ok w) vi _ r gs' HME.out.now_ hend
     clear hend
     go_wp2_with (go_at_call 146; refine hcall.mono ?_; rintro e w8 ⟨rfl, v8, hm8⟩; have HM8 := Aside0.mk (HME.out.trans hm8); clear hcall hm8)
     go_ret
     exact ⟨rfl, _, HM8.out⟩
    rw [if_neg h5] at hend
    have t5 : (kind == 5) = false := beq_eq_false_iff_ne.mpr h5
    clear h5
    by_cases h6 : kind = 6
    ·rw [if_pos h6] at hend
     have t6 : (kind == 6) = true := beq_iff_eq.mpr h6
     clear h6
     obtain ⟨⟨r1, s1⟩, e1, hend⟩ := Option.bind_eq_some_iff.1 hend
     obtain ⟨⟨r2, s2⟩, e2, hend⟩ := Option.bind_eq_some_iff.1 hend
     simp only at e2 hend
     have E2 := Aside0.mk e2
     have E3 := Aside0.mk hend
     have hcall := and_any Kf n (kf 0) (bx (kf 1)) w0 wr b (RK ok w) vi _ r1 s1 HME.out.now_ e1
     clear e1 e2 hend
     go_wp2_with (first
      | (go_at_call 145; refine hcall.mono ?_; rintro e w8 ⟨rfl, v8, hm8⟩; have HM8 := Aside0.mk (HME.out.trans hm8); have hk8 := hm8.other HME.out.now_ HKB.out (by decide) (by decide); clear hcall hm8 z0 z1 z2 y0 y1; have z0 := (blk_cell hk8 0).trans (show _ = some (.int .i64 (kf 0)) from rfl); have z1 := (blk_cell hk8 1).trans (show _ = some (.int .i64 (kf 1)) from rfl); have z2 := (blk_cell hk8 2).trans (show _ = some (.int .i64 (kf 2)) from rfl); have hcall2 := and_any Kf n (bx (kf 0)) (kf 1) w0 w8 b (RK ok w) v8 _ r2 s2 HM8.out.now_ E2.out; clear hk8)
      | (go_at_call 145; refine hcall2.mono ?_; rintro e w9 ⟨rfl, v9, hm9⟩; have HM9 := Aside0.mk (HM8.out.trans hm9); clear hcall2 hm9 z0 z1 z2; have hcall3 := or_any Kf n r1 r2 w0 w9 b (RK ok w) v9 _ r gs' HM9.out.now_ E3.out)
      | (go_at_call 146; refine hcall3.mono ?_; rintro e w10 ⟨rfl, v10, hm10⟩; have HM10 := Aside0.mk (HM9.out.trans hm10); clear hcall3 hm10))
     go_ret
     exact ⟨rfl, _, HM10.out⟩
    rw [if_neg h6] at hend
    have t6 : (kind == 6) = false := beq_eq_false_iff_ne.mpr h6
    clear h6
    obtain ⟨⟨r1, s1⟩, e1, hend⟩ := Option.bind_eq_some_iff.1 hend
    obtain ⟨⟨r2, s2⟩, e2, hend⟩ := Option.bind_eq_some_iff.1 hend
    simp only at e2 hend
    have E2 := Aside0.mk e2
    have E3 := Aside0.mk hend
    have hcall := and_any Kf n (kf 0) (kf 1) w0 wr b (RK ok w) vi _ r1 s1 HME.out.now_ e1
    clear e1 e2 hend
    go_wp2_with (first
     | (go_at_call 145; refine hcall.mono ?_; rintro e w8 ⟨rfl, v8, hm8⟩; have HM8 := Aside0.mk (HME.out.trans hm8); have hk8 := hm8.other HME.out.now_ HKB.out (by decide) (by decide); clear hcall hm8 z0 z1 z2 y0 y1; have z0 := (blk_cell hk8 0).trans (show _ = some (.int .i64 (kf 0)) from rfl); have z1 := (blk_cell hk8 1).trans (show _ = some (.int .i64 (kf 1)) from rfl); have z2 := (blk_cell hk8 2).trans (show _ = some (.int .i64 (kf 2)) from rfl); have hcall2 := and_any Kf n (bx (kf 0)) (kf 2) w0 w8 b (RK ok w) v8 _ r2 s2 HM8.out.now_ E2.out; clear hk8)
     | (go_at_call 145; refine hcall2.mono ?_; rintro e w9 ⟨rfl, v9, hm9⟩; have HM9 := Aside0.mk (HM8.out.trans hm9); clear hcall2 hm9 z0 z1 z2; have hcall3 := or_any Kf n r1 r2 w0 w9 b (RK ok w) v9 _ r gs' HM9.out.now_ E3.out)
     | (go_at_call 146; refine hcall3.mono ?_; rintro e w10 ⟨rfl, v10, hm10⟩; have HM10 := Aside0.mk (HM9.out.trans hm10); clear hcall3 hm10))
    go_ret
    exact ⟨rfl, _, HM10.out⟩
theorem inf3 : (Try.prog.info? 3).map (fun i => (i.zero, i.size, i.bytes)) = some (some (.int .i64 0), 1, 8) := by kernel_rfl
theorem results_ctt {P : Program} {fn : Func} {p u v : Tmp} {ty : TypeId} (h : fn.results = #[.cell p ty, .tmp u, .tmp v]) (tmps : Array Value) (w : World) (g : Nat) (t : TypeId) (cs : Array Value) (fr : Nat × Nat) (d : TypeDesc)
  (hp : tmps.getD p undef = .pointer (some ⟨g, 0, none⟩)) (hg : w.heap[g]? = some (.cells cs t fr))
  (hu : P.underlying ty = some d) (hd : (match d with | .struct _ | .array _ _ => true | _ => false) = true) (hi : (P.info? ty).map (·.size) = some cs.size) :
  (results fn tmps).run P w = .ok (.tuple #[.agg cs, tmps.getD u undef, tmps.getD v undef]) w := by
 have hp' : tmps[p]?.getD undef = .pointer (some ⟨g, 0, none⟩) := by simpa using hp
 simp [results, h, hp', asAddr, run_loadVar_row w g t ty cs fr d hg hu hd hi]
theorem MK.any {t : Nat} {w0 W : World} {b : Nat} {n : Int} {ok : Nat → Prop} {v : Value} {gs : List S114} (h : MK t w0 W b n ok v gs) : MK t w0 W b n (fun _ => True) v gs := ⟨h.base, h.old, h.blk, Kd.R_mono h.row (fun _ _ => trivial)⟩
theorem MKe.ints {t : Nat} {w0 w W : World} {b : Nat} {n : Int} {ok ok2 : Nat → Prop} {v v' u : Value} {gs gs2 : List S114} {base : Nat} {l : List Int} (h : MKe t w0 w W b n ok v v' gs) (hm : MK t w0 w b n ok v gs2) (ht : t ≠ 3) (hl : Kd.R (Kd.int .i64) 3 w base ok2 u l) : Kd.R (Kd.int .i64) 3 W base ok2 u l :=
 Kd.R_mono (Kd.R_kept (Kd.R_tight2 rfl hl) h.kept (fun k hk hS => by
  obtain ⟨cs, hcs⟩ := Kd.R_typed hl k hk.1.symm
  rcases hS with e | e
  ·rw [e, hm.blk] at hcs
   cases hcs
   exact ht rfl
  ·obtain ⟨cs2, hcs2⟩ := Kd.R_typed hm.row k e
   rw [hcs] at hcs2
   cases hcs2)) (fun _ hk => hk.2)
theorem MKe.blk2 {t : Nat} {w0 w W : World} {b : Nat} {n : Int} {ok : Nat → Prop} {v v' : Value} {gs gs2 : List S114} (h : MKe t w0 w W b n ok v v' gs) (hm : MK t w0 w b n ok v gs2) {g : Nat} {cells : Array Value} {q : Nat} (hb : w.heap[g]? = some (.cells cells q (0, 0))) (hq : g ≠ b) (hq2 : q ≠ 114) : W.heap[g]? = some (.cells cells q (0, 0)) :=
 blk_kept hb h.kept (fun hk => hk.elim hq (fun e => by
  obtain ⟨cs, hcs⟩ := Kd.R_typed hm.row g e
  rw [hb] at hcs
  cases hcs
  exact hq2 rfl))
def chkI (K : Nat) (n : Int) : List S31 → Option Int
 | [] => some 0
 | x :: r => (impl_isEx.f x.f0 x.f1 x.f2).bind fun t => if t = true then (impl_mostVar.f K x.f0 x.f1 x.f2).bind fun m => if m ≥ n then some 5 else chkI K n r else some 1
def outI (K : Nat) (n : Int) : List S31 → List Int → List S114 → Option (Int × List Int × List S114)
 | [], ls, gs => some (0, ls, gs)
 | x :: r, ls, gs => if ls.length ≤ 5000 then (bldI K n 41 x.f0 x.f1 x.f2 gs).bind fun p => if (p.2.length : Int) > 400 then some (11, [], []) else outI K n r (ls ++ [p.1]) p.2 else none
def impl_buildAig.f (K : Nat) (n : Int) (l : List S31) : Option (Int × List S114 × List Int × Int) :=
 (impl_within.f n 0 12).bind fun t => if t = true then (chkI K n l).bind fun c => if c = 0 then (outI K n l [] []).bind fun q => if q.1 = 0 then some (n, q.2.2, q.2.1, 0) else some (0, [], [], q.1) else some (0, [], [], c) else some (0, [], [], 5)
set_option maxHeartbeats 8000000 in
set_option maxRecDepth 100000 in
theorem impl_buildAig.calls (Kf : Nat) (n : Int) (A : Option Addr) (c : Nat) (l : List S31) (r1 : Int) (r2 : List S114) (r3 : List Int) (r4 : Int) (w : World) (hC : Kd.C k31 w A l.length l) (hc : l.length ≤ c) (hlen : l.length ≤ 5000) (h : impl_buildAig.f Kf n l = some (r1, r2, r3, r4)) :
  Calls Try.prog 109 #[.int .i64 n, .slice A l.length c] w fun e W' => ∃ vg vl, e = .returned (.tuple #[.agg #[.int .i64 r1, vg], vl, .int .i64 r4]) ∧ Kd.R k114 114 W' w.heap.size (fun _ => True) vg r2 ∧ Kd.R (Kd.int .i64) 3 W' w.heap.size (fun _ => True) vl r3 ∧ Below w.heap.size w W' := by
 have hu31 := Try.underlying31
 have hu46 := Try.underlying46
 unfold impl_buildAig.f at h
 obtain ⟨t, ht, h2⟩ := Option.bind_eq_some_iff.1 h
 clear h
 have hwi := fun W => impl_within.calls n 0 12 t W ht
 have HC := Aside0.mk hC
 clear hC ht
 obtain ⟨g, hg⟩ : ∃ g, w.heap.size = g := ⟨_, rfl⟩
 go_enter Try.func109, Try.ntmps109
 go_upto_region 1 with fail
 have hb2 : Below w.heap.size w (w.alloc (.cells #[.int .i64 0, .slice none 0 0] 46)) := below_alloc (Below.refl _ _) _
 have k1 : (w.alloc (.cells #[.int .i64 0, .slice none 0 0] 46)).heap[g]? = some (.cells #[.int .i64 0, .slice none 0 0] 46 (0, 0)) := by rw [← hg]; exact blk_new w _
 generalize w.alloc (.cells #[.int .i64 0, .slice none 0 0] 46) = w2 at hb2 k1 ⊢
 have HG := Aside0.mk hg
 have HGE := Aside0.mk (Nat.le_of_eq hg)
 have HB2 := Aside0.mk hb2
 have HK2 := Aside0.mk k1
 have hwi2 := hwi w2
 clear hwi hg hb2 k1
 cases t with
 | false =>
  rw [if_neg (by decide)] at h2
  cases h2
  go_upto_region 2 with (go_at_call 79; refine hwi2.mono ?_; rintro e w3 ⟨rfl, hd⟩; clear hwi2; have HB3 := Aside0.mk (HB2.out.trans (hd.below.mono HB2.out.size)); have HK3 := Aside0.mk (blk_below HK2.out hd.below); clear hd)
  have y0 := (blk_cell HK3.out 0).trans (show _ = some (.int .i64 0) from rfl)
  have y1 := (blk_cell HK3.out 1).trans (show _ = some (.slice none 0 0) from rfl)
  have z0 := blk_frozen HK3.out 0
  have z1 := blk_frozen HK3.out 1
  go_wp2
  have hz := heap_set (j := 1) (u := .slice none 0 0) (heap_set (j := 0) (u := .int .i64 0) HK3.out)
  (try simp only [Exit.inBlock, Exit.then])
  refine bodyPost_ret (results_ctt rfl _ _ g 46 #[.int .i64 0, .slice none 0 0] (0, 0) _ rfl hz Try.underlying46 rfl (by kernel_rfl)) rfl ?_
  exact ⟨_, _, rfl, Kd.R_nil _ _ _ _ _, Kd.R_nil _ _ _ _ _, (HB3.out.setCell (p := ⟨g, 0, none⟩) HGE.out _).setCell (p := ⟨g, 1, none⟩) HGE.out _⟩
 | true =>
  rw [if_pos rfl] at h2
  obtain ⟨cd, hcd, h⟩ := Option.bind_eq_some_iff.1 h2
  have HCD := Aside0.mk hcd
  have HH := Aside0.mk h
  clear h2 hcd h
  go_upto_region 4 with (go_at_call 79; refine hwi2.mono ?_; rintro e w3 ⟨rfl, hd⟩; clear hwi2; have HB3 := Aside0.mk (HB2.out.trans (hd.below.mono HB2.out.size)); have HK3 := Aside0.mk (blk_below HK2.out hd.below); clear hd)
  go_wp2
  go_loopg [19] l.length (fun gg v19 wr => ∃ (i : Nat), v19 = .int .i64 i ∧ i ≤ l.length ∧ l.length - i ≤ gg ∧ Aside0 (chkI Kf n (l.drop i) = some cd) ∧ Aside0 (Below w.heap.size w wr) ∧ Aside0 (wr.heap[g]? = some (.cells #[.int .i64 0, .slice none 0 0] 46 (0, 0))))
  case atStart => exact ⟨0, rfl, Nat.zero_le _, by omega, HCD, HB3, HK3⟩
  case round =>
   clear HCD HB3 HK3
   obtain ⟨i, rfl, hi, hgk, HCD, HB, HK⟩ := hrel
   by_cases hlt : i < l.length
   ·have hltz : (i : Int) < (l.length : Int) := by omega
    have h0z : (0 : Int) ≤ (i : Int) := by omega
    obtain ⟨ad, A2, c2, ea, hx0, hx1, hx2, hlc2, hC2⟩ := at_T31 HC.out (i : Int) h0z hltz
    subst ea
    have hrd : rd_T31 l (i : Int) = l[i] := by unfold rd_T31; simp [List.getD, hlt]
    rw [Int.toNat_natCast, hrd] at hx0 hx1 hx2
    rw [hrd] at hlc2 hC2
    replace hx0 := (HB.out.cell (World.block_lt_of_cell? w _ hx0)).trans hx0
    replace hx1 := (HB.out.cell (World.block_lt_of_cell? w _ hx1)).trans hx1
    replace hx2 := (HB.out.cell (World.block_lt_of_cell? w _ hx2)).trans hx2
    have HC2 := Aside0.mk (And.intro hC2 hlc2)
    clear hC2 hlc2 hrd
    have hcd := HCD.out
    rw [List.drop_eq_getElem_cons hlt, chkI] at hcd
    obtain ⟨tx, htx, hcd2⟩ := Option.bind_eq_some_iff.1 hcd
    have HTX := Aside0.mk htx
    have HCD2 := Aside0.mk hcd2
    clear hcd htx hcd2 HCD
    generalize l[i] = x at hx0 hx1 hx2 HTX HCD2 HC2
    go_upto_region 6 with (first
     | ((with_reducible refine gate_dst (N := 8) rfl ?_); refine box_event ?hg (N := 8) ?hd (cs := #[.int .i64 0, .int .i64 0, .slice none 0 0]) (t := 31) ?hr ?_; (case hd => rfl); (case hg => rfl); (case hr => first | (go_simp; done) | (go_simp; rfl)); intro gb4 hgw wb4 hbox hbb; have hcz0 := (blk_cell hbox 0).trans (show _ = some (.int .i64 0) from rfl); have hfz0 := blk_frozen hbox 0; have hcz1 := (blk_cell hbox 1).trans (show _ = some (.int .i64 0) from rfl); have hfz1 := blk_frozen hbox 1; have hcz2 := (blk_cell hbox 2).trans (show _ = some (.slice none 0 0) from rfl); have hfz2 := blk_frozen hbox 2; have hgw_ := Aside0.mk hgw; clear hgw; have hgw := hgw_; clear hgw_)
     | ((with_reducible refine gate_store (t := 31) (p := 8) rfl ?_); refine store_event (t := 31) (p := 8) (v := ?vo_8) (w1 := (((wb4.setCell ⟨gb4, 0, none⟩ (.int .i64 x.f0)).setCell ⟨gb4, 1, none⟩ (.int .i64 x.f1)).setCell ⟨gb4, 2, none⟩ (.slice A2 x.f2.length c2))) ?hg ?ho ?hn ?hr ?_; (case ho => rfl); (case hg => rfl); (case hn => rfl); (case hr => first | (go_simp; done) | (go_simp; rfl)); clear hcz0 hfz0 hcz1 hfz1 hcz2 hfz2; intro w5 hw_; obtain ⟨hbk, hb⟩ := box3n hgw.out hbox hbb; rw [← hw_] at hbk hb; clear hw_ hbox hbb; have HB5 := Aside0.mk (HB.out.trans (hb.mono HB.out.size)); have HK5 := Aside0.mk (blk_below HK.out hb); have HG5 := Aside0.mk hbk; clear hgw hb hbk hx0 hx1 hx2 HB HK))
    have y0 := (blk_cell HG5.out 0).trans (show _ = some (.int .i64 x.f0) from rfl)
    have y1 := (blk_cell HG5.out 1).trans (show _ = some (.int .i64 x.f1) from rfl)
    have y2 := (blk_cell HG5.out 2).trans (show _ = some (.slice A2 x.f2.length c2) from rfl)
    have hex := impl_isEx.calls x.f0 x.f1 A2 c2 x.f2 tx w5 (Kd.C_below HC2.out.1 HB5.out) HC2.out.2 HTX.out
    have hcd2 := HCD2.out
    cases tx with
    | false =>
     rw [if_neg (by decide)] at hcd2
     cases hcd2
     have h := HH.out
     rw [if_neg (by decide)] at h
     cases h
     clear HTX HCD2
     go_upto_region 7 with (go_at_call 60; refine hex.mono ?_; rintro e w6 ⟨rfl, hb6⟩; clear hex; have HB6 := Aside0.mk (HB5.out.trans (hb6.mono HB5.out.size)); have HK6 := Aside0.mk (blk_below HK5.out hb6); clear hb6 y0 y1 y2)
     have y0 := (blk_cell HK6.out 0).trans (show _ = some (.int .i64 0) from rfl)
     have y1 := (blk_cell HK6.out 1).trans (show _ = some (.slice none 0 0) from rfl)
     have z0 := blk_frozen HK6.out 0
     have z1 := blk_frozen HK6.out 1
     go_wp2
     have hz := heap_set (j := 1) (u := .slice none 0 0) (heap_set (j := 0) (u := .int .i64 0) HK6.out)
     (try simp only [Exit.inBlock, Exit.then])
     refine bodyPost_ret (results_ctt rfl _ _ g 46 #[.int .i64 0, .slice none 0 0] (0, 0) _ rfl hz Try.underlying46 rfl (by kernel_rfl)) rfl ?_
     exact ⟨_, _, rfl, Kd.R_nil _ _ _ _ _, Kd.R_nil _ _ _ _ _, (HB6.out.setCell (p := ⟨g, 0, none⟩) HGE.out _).setCell (p := ⟨g, 1, none⟩) HGE.out _⟩
    | true =>
     rw [if_pos rfl] at hcd2
     obtain ⟨m, hm, hcd3⟩ := Option.bind_eq_some_iff.1 hcd2
     have HM_ := Aside0.mk hm
     clear hcd2 hm HTX HCD2
     go_upto_region 8 with (go_at_call 60; refine hex.mono ?_; rintro e w6 ⟨rfl, hb6⟩; clear hex; have HB6 := Aside0.mk (HB5.out.trans (hb6.mono HB5.out.size)); have HK6 := Aside0.mk (blk_below HK5.out hb6); have HG6 := Aside0.mk (blk_below HG5.out hb6); clear hb6 y0 y1 y2)
     have y0 := (blk_cell HG6.out 0).trans (show _ = some (.int .i64 x.f0) from rfl)
     have y1 := (blk_cell HG6.out 1).trans (show _ = some (.int .i64 x.f1) from rfl)
     have y2 := (blk_cell HG6.out 2).trans (show _ = some (.slice A2 x.f2.length c2) from rfl)
     have hmv := impl_mostVar.calls Kf x.f0 x.f1 A2 c2 x.f2 m w6 (Kd.C_below HC2.out.1 HB6.out) HC2.out.2 HM_.out
     by_cases hmn : m ≥ n
     ·rw [if_pos hmn] at hcd3
      cases hcd3
      have h := HH.out
      rw [if_neg (by decide)] at h
      cases h
      go_upto_region 9 with (go_at_call 61; refine hmv.mono ?_; rintro e w7 ⟨rfl, hb7⟩; clear hmv; have HB7 := Aside0.mk (HB6.out.trans (hb7.mono HB6.out.size)); have HK7 := Aside0.mk (blk_below HK6.out hb7); clear hb7 y0 y1 y2)
      have y0 := (blk_cell HK7.out 0).trans (show _ = some (.int .i64 0) from rfl)
      have y1 := (blk_cell HK7.out 1).trans (show _ = some (.slice none 0 0) from rfl)
      have z0 := blk_frozen HK7.out 0
      have z1 := blk_frozen HK7.out 1
      go_wp2
      have hz := heap_set (j := 1) (u := .slice none 0 0) (heap_set (j := 0) (u := .int .i64 0) HK7.out)
      (try simp only [Exit.inBlock, Exit.then])
      refine bodyPost_ret (results_ctt rfl _ _ g 46 #[.int .i64 0, .slice none 0 0] (0, 0) _ rfl hz Try.underlying46 rfl (by kernel_rfl)) rfl ?_
      exact ⟨_, _, rfl, Kd.R_nil _ _ _ _ _, Kd.R_nil _ _ _ _ _, (HB7.out.setCell (p := ⟨g, 0, none⟩) HGE.out _).setCell (p := ⟨g, 1, none⟩) HGE.out _⟩
     ·rw [if_neg hmn] at hcd3
      have HCD3 := Aside0.mk hcd3
      clear hcd3
      have ew : IntKind.i64.wrap ((i : Int) + 1) = ((i + 1 : Nat) : Int) := IntWalk.i64_in _ (by omega)
      go_wp2_with (go_at_call 61; refine hmv.mono ?_; rintro e w7 ⟨rfl, hb7⟩; clear hmv; have HB7 := Aside0.mk (HB6.out.trans (hb7.mono HB6.out.size)); have HK7 := Aside0.mk (blk_below HK6.out hb7); clear hb7 y0 y1 y2)
      go_roundg (gk - 1)
      case measure => omega
      case rel => exact ⟨i + 1, rfl, by omega, by omega, HCD3, HB7, HK7⟩
   ·obtain rfl : i = l.length := by omega
    have hcd := HCD.out
    rw [List.drop_length, chkI] at hcd
    cases hcd
    have h := HH.out
    rw [if_pos rfl] at h
    obtain ⟨⟨q1, q2, q3⟩, hq, h⟩ := Option.bind_eq_some_iff.1 h
    simp only at h
    have HQ := Aside0.mk hq
    have HQ2 := Aside0.mk h
    clear h hq HCD HH hlt
    go_upto_region 12 with (first
     | ((with_reducible refine gate_dst (N := 9) rfl ?_); refine box_event ?hg (N := 9) ?hd (cs := #[.int .i64 0, .slice none 0 0]) (t := 46) ?hr ?_; (case hd => rfl); (case hg => rfl); (case hr => first | (go_simp; done) | (go_simp; rfl)); intro b hgw wb9 hbox hbb; have hcz0 := (blk_cell hbox 0).trans (show _ = some (.int .i64 0) from rfl); have hfz0 := blk_frozen hbox 0; have hcz1 := (blk_cell hbox 1).trans (show _ = some (.slice none 0 0) from rfl); have hfz1 := blk_frozen hbox 1; have hgw_ := Aside0.mk hgw; clear hgw; have hgw := hgw_; clear hgw_)
     | ((with_reducible refine gate_store (t := 46) (p := 9) rfl ?_); refine store_event (t := 46) (p := 9) (v := ?vo_9) (w1 := ((wb9.setCell ⟨b, 0, none⟩ (.int .i64 n)).setCell ⟨b, 1, none⟩ (.slice none 0 0))) ?hg ?ho ?hn ?hr ?_; (case ho => rfl); (case hg => rfl); (case hn => rfl); (case hr => first | (go_simp; done) | (go_simp; rfl)); clear hcz0 hfz0 hcz1 hfz1; intro w9 hw_; obtain ⟨hbk, hb⟩ := box2n hgw.out hbox hbb; rw [← hw_] at hbk hb; clear hw_ hbox hbb; have HB9 := Aside0.mk (HB.out.trans (hb.mono HB.out.size)); have HK9 := Aside0.mk (blk_below HK.out hb); have HM9 := Aside0.mk (show MK 46 w w9 b n (fun _ => True) (.slice none 0 0) [] from ⟨HB9.out, by rw [hgw.out]; exact HB.out.size, hbk, Kd.R_nil _ _ _ _ _⟩); have HNE := Aside0.mk (show g ≠ b by have h9 := hgw.out; have h8 := blk_lt HK.out; omega); clear hgw hb hbk HB HK))
    go_wp2
    go_loopg [10, 37] l.length (fun gg v10 v37 wr => ∃ (i : Nat) (ls : List Int) (vi : Value) (gi : List S114), v37 = .int .i64 i ∧ i ≤ l.length ∧ l.length - i ≤ gg ∧ Aside0 (outI Kf n (l.drop i) ls gi = some (q1, q2, q3)) ∧ Aside0 (Kd.R (Kd.int .i64) 3 wr w.heap.size (fun _ => True) v10 ls) ∧ Aside0 (MK 46 w wr b n (fun _ => True) vi gi) ∧ Aside0 (Below w.heap.size w wr) ∧ Aside0 (wr.heap[g]? = some (.cells #[.int .i64 0, .slice none 0 0] 46 (0, 0))))
    case atStart => exact ⟨0, [], _, [], rfl, Nat.zero_le _, by omega, HQ, ⟨Kd.R_nil _ _ _ _ _⟩, HM9, HB9, HK9⟩
    case round =>
     clear HQ HM9 HB9 HK9
     obtain ⟨i, ls, vi, gi, rfl, hi, hgk, HQ, HL, HM, HB, HK⟩ := hrel
     by_cases hlt : i < l.length
     ·have hltz : (i : Int) < (l.length : Int) := by omega
      have h0z : (0 : Int) ≤ (i : Int) := by omega
      obtain ⟨ad, A2, c2, ea, hx0, hx1, hx2, hlc2, hC2⟩ := at_T31 HC.out (i : Int) h0z hltz
      subst ea
      have hrd : rd_T31 l (i : Int) = l[i] := by unfold rd_T31; simp [List.getD, hlt]
      rw [Int.toNat_natCast, hrd] at hx0 hx1 hx2
      rw [hrd] at hlc2 hC2
      replace hx0 := (HB.out.cell (World.block_lt_of_cell? w _ hx0)).trans hx0
      replace hx1 := (HB.out.cell (World.block_lt_of_cell? w _ hx1)).trans hx1
      replace hx2 := (HB.out.cell (World.block_lt_of_cell? w _ hx2)).trans hx2
      have HC2 := Aside0.mk (And.intro hC2 hlc2)
      clear hC2 hlc2 hrd
      have hq := HQ.out
      rw [List.drop_eq_getElem_cons hlt, outI] at hq
      have hll : ls.length ≤ 5000 := by
       by_cases h9 : ls.length ≤ 5000
       ·exact h9
       ·rw [if_neg h9] at hq; cases hq
      rw [if_pos hll] at hq
      obtain ⟨⟨p1, p2⟩, hgo, hq3⟩ := Option.bind_eq_some_iff.1 hq
      simp only at hq3
      have HGO := Aside0.mk hgo
      have HQ3 := Aside0.mk hq3
      have HLL := Aside0.mk hll
      clear hq hgo hq3 hll HQ
      generalize l[i] = x at hx0 hx1 hx2 HGO HC2
      go_upto_region 16 with (first
       | ((with_reducible refine gate_dst (N := 12) rfl ?_); refine box_event ?hg (N := 12) ?hd (cs := #[.int .i64 0, .int .i64 0, .slice none 0 0]) (t := 31) ?hr ?_; (case hd => rfl); (case hg => rfl); (case hr => first | (go_simp; done) | (go_simp; rfl)); intro gb4 hgw wb4 hbox hbb; have hcz0 := (blk_cell hbox 0).trans (show _ = some (.int .i64 0) from rfl); have hfz0 := blk_frozen hbox 0; have hcz1 := (blk_cell hbox 1).trans (show _ = some (.int .i64 0) from rfl); have hfz1 := blk_frozen hbox 1; have hcz2 := (blk_cell hbox 2).trans (show _ = some (.slice none 0 0) from rfl); have hfz2 := blk_frozen hbox 2; have hgw_ := Aside0.mk hgw; clear hgw; have hgw := hgw_; clear hgw_)
       | ((with_reducible refine gate_store (t := 31) (p := 12) rfl ?_); refine store_event (t := 31) (p := 12) (v := ?vo_12) (w1 := (((wb4.setCell ⟨gb4, 0, none⟩ (.int .i64 x.f0)).setCell ⟨gb4, 1, none⟩ (.int .i64 x.f1)).setCell ⟨gb4, 2, none⟩ (.slice A2 x.f2.length c2))) ?hg ?ho ?hn ?hr ?_; (case ho => rfl); (case hg => rfl); (case hn => rfl); (case hr => first | (go_simp; done) | (go_simp; rfl)); clear hcz0 hfz0 hcz1 hfz1 hcz2 hfz2; intro w5 hw_; obtain ⟨hbk, hb⟩ := box3n hgw.out hbox hbb; rw [← hw_] at hbk hb; clear hw_ hbox hbb; have HB5 := Aside0.mk (HB.out.trans (hb.mono HB.out.size)); have HK5 := Aside0.mk (blk_below HK.out hb); have HM5 := Aside0.mk (HM.out.below hb); have HL5 := Aside0.mk (Kd.R_below HL.out hb); have HG5 := Aside0.mk hbk; clear hgw hb hbk hx0 hx1 hx2 HB HK HM HL))
      have y0 := (blk_cell HG5.out 0).trans (show _ = some (.int .i64 x.f0) from rfl)
      have y1 := (blk_cell HG5.out 1).trans (show _ = some (.int .i64 x.f1) from rfl)
      have y2 := (blk_cell HG5.out 2).trans (show _ = some (.slice A2 x.f2.length c2) from rfl)
      have hbl := build_any Kf n w b 41 x.f0 x.f1 A2 c2 x.f2 (fun _ => True) vi gi p1 p2 w5 HC2.out.1 HC2.out.2 HM5.out HGO.out
      go_upto_region 17 with (first
       | (go_at_call 135; refine hbl.mono ?_; rintro e w6 ⟨rfl, v6, hm6⟩; clear hbl; have HM6 := Aside0.mk hm6.now_.any; have HK6 := Aside0.mk (hm6.blk2 HM5.out HK5.out HNE.out (by decide)); have HL6 := Aside0.mk (hm6.ints HM5.out (by decide) HL5.out); have HB6 := Aside0.mk hm6.now_.base; clear hm6 y0 y1 y2 HM5 HK5 HL5 HB5 HG5)
       | ((with_reducible refine gate_builtin (b := .append) (xs := #[.tmp 41, .tmp 44]) rfl ?_); at_builtin; refine Kd.R_append (Kd.int .i64) (w0 := w) w.heap.size rfl (.tmp 41) (.tmp 44) 40 3 (.int .i64 0) 8 rfl Try.underlying40 inf3 rfl (by decide) (by omega) u10 ls p1 [.int .i64 p1] (fun _ => True) (fun _ => False) rfl rfl ?aP (fun _ hk => hk.elim) ?aF ?aO ?aB ?aS ?aL ?_; (case aP => exact rfl); (case aF => exact fun _ _ => trivial); (case aO => exact HL6.out); (case aB => exact HB6.out); (case aS => exact HB6.out.size); (case aL => have := HLL.out; omega); intro v1 w7 ho hb hg2 hat; have HL7 := Aside0.mk ho; have HB7 := Aside0.mk hb; have HK7 := Aside0.mk (blk_grown HK6.out hg2 (Kd.R_ne HL6.out HK6.out (by decide))); have HM7 := Aside0.mk (show MK 46 w w7 b n (fun _ => True) v6 p2 from ⟨hb, HM6.out.old, blk_grown HM6.out.blk hg2 (Kd.R_ne HL6.out HM6.out.blk (by decide)), Kd.R_grown2 HM6.out.row rfl hg2 (fun k hk e => by (obtain ⟨cs1, hcs1⟩ := Kd.R_typed HL6.out k hk); (obtain ⟨cs2, hcs2⟩ := Kd.R_typed HM6.out.row k e.symm); (rw [hcs1] at hcs2); (cases hcs2))⟩); clear ho hb hg2 hat HM6 HK6 HL6 HB6))
      obtain ⟨A6, c6, e6⟩ := Kd.R_slice HM7.out.row
      subst e6
      have x1 := HM7.out.cells.2
      have hq3 := HQ3.out
      by_cases hgt : (p2.length : Int) > 400
      ·rw [if_pos hgt] at hq3
       cases hq3
       have h := HQ2.out
       rw [if_neg (by decide)] at h
       cases h
       go_upto_region 18 with fail
       clear x1
       have y0 := (blk_cell HK7.out 0).trans (show _ = some (.int .i64 0) from rfl)
       have y1 := (blk_cell HK7.out 1).trans (show _ = some (.slice none 0 0) from rfl)
       have z0 := blk_frozen HK7.out 0
       have z1 := blk_frozen HK7.out 1
       go_wp2
       have hz := heap_set (j := 1) (u := .slice none 0 0) (heap_set (j := 0) (u := .int .i64 0) HK7.out)
       (try simp only [Exit.inBlock, Exit.then])
       refine bodyPost_ret (results_ctt rfl _ _ g 46 #[.int .i64 0, .slice none 0 0] (0, 0) _ rfl hz Try.underlying46 rfl (by kernel_rfl)) rfl ?_
       exact ⟨_, _, rfl, Kd.R_nil _ _ _ _ _, Kd.R_nil _ _ _ _ _, (HB7.out.setCell (p := ⟨g, 0, none⟩) HGE.out _).setCell (p := ⟨g, 1, none⟩) HGE.out _⟩
      ·rw [if_neg hgt] at hq3
       have HQ4 := Aside0.mk hq3
       clear hq3 HQ3
       have ew : IntKind.i64.wrap ((i : Int) + 1) = ((i + 1 : Nat) : Int) := IntWalk.i64_in _ (by omega)
       go_wp2
       go_roundg (gk - 1)
       case measure => omega
       case rel => exact ⟨i + 1, ls ++ [p1], _, p2, rfl, by omega, by omega, HQ4, HL7, HM7, HB7, HK7⟩
     ·obtain rfl : i = l.length := by omega
      have hq := HQ.out
      rw [List.drop_length, outI] at hq
      cases hq
      have h := HQ2.out
      rw [if_pos rfl] at h
      cases h
      obtain ⟨A6, c6, e6⟩ := Kd.R_slice HM.out.row
      subst e6
      have x0 := HM.out.cells.1
      have x1 := HM.out.cells.2
      have y0 := (blk_cell HK.out 0).trans (show _ = some (.int .i64 0) from rfl)
      have y1 := (blk_cell HK.out 1).trans (show _ = some (.slice none 0 0) from rfl)
      have z0 := blk_frozen HK.out 0
      have z1 := blk_frozen HK.out 1
      have hne := HNE.out
      go_wp2
      have hz := heap_set (j := 1) (u := .slice A6 r2.length c6) (heap_set (j := 0) (u := .int .i64 n) HK.out)
      (try simp only [Exit.inBlock, Exit.then])
      refine bodyPost_ret (results_ctt rfl _ _ g 46 #[.int .i64 n, .slice A6 r2.length c6] (0, 0) _ rfl hz Try.underlying46 rfl (by kernel_rfl)) rfl ?_
      exact ⟨_, _, rfl, Kd.R_set (Kd.R_set HM.out.row HK.out (by decide) 0 _) (heap_set HK.out) (by decide) 1 _, Kd.R_set (Kd.R_set HL.out HK.out (by decide) 0 _) (heap_set HK.out) (by decide) 1 _, (HB.out.setCell (p := ⟨g, 0, none⟩) HGE.out _).setCell (p := ⟨g, 1, none⟩) HGE.out _⟩
def impl_BuildAig.f (K : Nat) (n : Int) (l : List S31) : Option (Int × List S114 × List Int × Int) := if (l.length : Int) > 4096 then some (0, [], [], 2) else impl_buildAig.f K n l
set_option maxHeartbeats 4000000 in
set_option maxRecDepth 100000 in
theorem impl_BuildAig.calls (Kf : Nat) (n : Int) (A : Option Addr) (c : Nat) (l : List S31) (r1 : Int) (r2 : List S114) (r3 : List Int) (r4 : Int) (w : World) (hC : Kd.C k31 w A l.length l) (hc : l.length ≤ c) (h : impl_BuildAig.f Kf n l = some (r1, r2, r3, r4)) :
  Calls Try.prog 54 #[.int .i64 n, .slice A l.length c] w fun e W' => ∃ vg vl, e = .returned (.tuple #[.agg #[.int .i64 r1, vg], vl, .int .i64 r4]) ∧ Kd.R k114 114 W' w.heap.size (fun _ => True) vg r2 ∧ Kd.R (Kd.int .i64) 3 W' w.heap.size (fun _ => True) vl r3 ∧ Below w.heap.size w W' := by
 have hu46 := Try.underlying46
 unfold impl_BuildAig.f at h
 have HC := Aside0.mk hC
 clear hC
 obtain ⟨g, hg⟩ : ∃ g, w.heap.size = g := ⟨_, rfl⟩
 go_enter Try.func54, Try.ntmps54
 go_upto_region 1 with fail
 have hb2 : Below w.heap.size w (w.alloc (.cells #[.int .i64 0, .slice none 0 0] 46)) := below_alloc (Below.refl _ _) _
 have k1 : (w.alloc (.cells #[.int .i64 0, .slice none 0 0] 46)).heap[g]? = some (.cells #[.int .i64 0, .slice none 0 0] 46 (0, 0)) := by rw [← hg]; exact blk_new w _
 generalize w.alloc (.cells #[.int .i64 0, .slice none 0 0] 46) = w2 at hb2 k1 ⊢
 have HG := Aside0.mk hg
 have HGE := Aside0.mk (Nat.le_of_eq hg)
 have HB2 := Aside0.mk hb2
 have HK2 := Aside0.mk k1
 clear hg hb2 k1
 by_cases hgt : (l.length : Int) > 4096
 ·rw [if_pos hgt] at h
  cases h
  go_upto_region 2 with fail
  have y0 := (blk_cell HK2.out 0).trans (show _ = some (.int .i64 0) from rfl)
  have y1 := (blk_cell HK2.out 1).trans (show _ = some (.slice none 0 0) from rfl)
  have z0 := blk_frozen HK2.out 0
  have z1 := blk_frozen HK2.out 1
  go_wp2
  have hz := heap_set (j := 1) (u := .slice none 0 0) (heap_set (j := 0) (u := .int .i64 0) HK2.out)
  (try simp only [Exit.inBlock, Exit.then])
  refine bodyPost_ret (results_ctt rfl _ _ g 46 #[.int .i64 0, .slice none 0 0] (0, 0) _ rfl hz Try.underlying46 rfl (by kernel_rfl)) rfl ?_
  exact ⟨_, _, rfl, Kd.R_nil _ _ _ _ _, Kd.R_nil _ _ _ _ _, (HB2.out.setCell (p := ⟨g, 0, none⟩) HGE.out _).setCell (p := ⟨g, 1, none⟩) HGE.out _⟩
 ·rw [if_neg hgt] at h
  have hcall := impl_buildAig.calls Kf n A c l r1 r2 r3 r4 w2 (Kd.C_below HC.out HB2.out) hc (by omega) h
  go_upto_region 3 with fail
  have y0 := (blk_cell HK2.out 0).trans (show _ = some (.int .i64 0) from rfl)
  have y1 := (blk_cell HK2.out 1).trans (show _ = some (.slice none 0 0) from rfl)
  have z0 := blk_frozen HK2.out 0
  have z1 := blk_frozen HK2.out 1
  go_wp2_with (go_at_call 109; refine hcall.mono ?_; rintro e w3 ⟨vg, vl, rfl, hRg, hRl, hb3⟩; clear hcall; have HRG := Aside0.mk (Kd.R_lower hRg HB2.out.size); have HRL := Aside0.mk (Kd.R_lower hRl HB2.out.size); have HB3 := Aside0.mk (HB2.out.trans (hb3.mono HB2.out.size)); have HK3 := Aside0.mk (blk_below HK2.out hb3); clear hRg hRl hb3 y0 y1 z0 z1; obtain ⟨A6, c6, e6⟩ := Kd.R_slice HRG.out; subst e6; have y0 := (blk_cell HK3.out 0).trans (show _ = some (.int .i64 0) from rfl); have y1 := (blk_cell HK3.out 1).trans (show _ = some (.slice none 0 0) from rfl); have z0 := blk_frozen HK3.out 0; have z1 := blk_frozen HK3.out 1)
  have hz := heap_set (j := 1) (u := .slice A6 r2.length c6) (heap_set (j := 0) (u := .int .i64 r1) HK3.out)
  (try simp only [Exit.inBlock, Exit.then])
  refine bodyPost_ret (results_ctt rfl _ _ g 46 #[.int .i64 r1, .slice A6 r2.length c6] (0, 0) _ rfl hz Try.underlying46 rfl (by kernel_rfl)) rfl ?_
  exact ⟨_, _, rfl, Kd.R_set (Kd.R_set HRG.out HK3.out (by decide) 0 _) (heap_set HK3.out) (by decide) 1 _, Kd.R_set (Kd.R_set HRL.out HK3.out (by decide) 0 _) (heap_set HK3.out) (by decide) 1 _, (HB3.out.setCell (p := ⟨g, 0, none⟩) HGE.out _).setCell (p := ⟨g, 1, none⟩) HGE.out _⟩
end Go.Proofs.Ytcmkkoggdcjceaa.PFnExactBuildAig
end
section
namespace Go.Proofs.Ytcmkkoggdcjceaa.PFnExactBuildAig
open Go.RowKit Go.Proofs.YtcmkkoggdcjceaaW.PrintWords Go.Proofs.YtcmkkoggdcjceaaW.PrintLast Go.Proofs.YtcmkkoggdcjceaaW.PrintMore
attribute [local go_sem] max2_int min2_int max_two min_two max_three min_three max_four min_four   -- for this text's walks alone
set_option linter.unusedVariables false
set_option linter.unusedSimpArgs false
def findG (a c : Int) : List S114 → Nat → Option Nat
 | [], _ => none
 | x :: r, i => if (x.f0 == a && x.f1 == c) = true then some i else findG a c r (i + 1)
def andS (n x y : Int) (gs : List S114) : Option (Int × List S114) :=
 if lo2 x y = 0 then some (0, gs) else if lo2 x y = 1 then some (hi2 x y, gs) else if lo2 x y = hi2 x y then some (hi2 x y, gs) else if wrap64 (Int.tdiv (lo2 x y) 2) = wrap64 (Int.tdiv (hi2 x y) 2) then some (0, gs) else
 match findG (lo2 x y) (hi2 x y) gs 0 with
 | some i => some (wrap64 (2 * wrap64 (wrap64 (n + 1) + (i : Int))), gs)
 | none => if gs.length ≤ 100000 then some (wrap64 (2 * wrap64 (n + ((gs.length + 1 : Nat) : Int))), gs ++ [⟨lo2 x y, hi2 x y⟩]) else none
def sa15_T : Bool × List (List Nat × List Nat) := (true, [([], []), ([0], [0]), ([1], [1]), ([2], [2]), ([3], [3]), ([], []), ([4, 5], [4, 5]), ([6], [6]), ([], []), ([7, 8], [7, 8])])
def sa15_B : List Nat := [0, 1, 3, 7, 15, 0, 63, 127, 0, 511]
theorem sa15_tab : rtab .any (opsOf Try.f133 15) = sa15_T := by kernel_rfl
theorem sa15_bits : waitsOk sa15_T.2 sa15_B = true := by kernel_rfl
def sa18_T : Bool × List (List Nat × List Nat) := (true, [([], []), ([0], [0]), ([1], [1]), ([2], [2]), ([3], [3]), ([], []), ([5], [5]), ([6], [6]), ([7], [7]), ([8], [8]), ([9], [9]), ([4, 10], [4, 10]), ([11], [11]), ([12, 0, 1, 2, 3, 4, 5, 6, 7, 8, 9, 10, 11, 12], [12])])
def sa18_B : List Nat := [0, 1, 3, 7, 15, 0, 32, 96, 224, 480, 992, 2047, 4095, 8191]
theorem sa18_tab : rtab .any (opsOf Try.f133 18) = sa18_T := by kernel_rfl
theorem sa18_bits : waitsOk sa18_T.2 sa18_B = true := by kernel_rfl
def sand_T : Bool × List (List Nat × List Nat) := (true, [([], []), ([], []), ([1], [1]), ([2], [2]), ([3], [3]), ([4], [4]), ([], []), ([6], [6]), ([5, 7], [5, 7]), ([0, 0, 1, 2, 3, 4, 5, 6, 7, 8], [0]), ([9, 0, 1, 2, 3, 4, 5, 6, 7, 8], [9]), ([10, 0, 1, 2, 3, 4, 5, 6, 7, 8], [10]), ([11, 8, 8, 0, 1, 2, 3, 4, 5, 6, 7, 8], [8, 11])])
def sand_B : List Nat := [0, 0, 2, 6, 14, 30, 0, 64, 254, 1, 513, 1537, 4095]
theorem sand_tab : rtab .any (opsOf Try.f133 17) = sand_T := by kernel_rfl
theorem sand_bits : waitsOk sand_T.2 sand_B = true := by kernel_rfl
set_option maxHeartbeats 8000000 in
set_option maxRecDepth 100000 in
theorem sand_any (n x y : Int) (w0 w : World) (b : Nat) (ok : Nat → Prop) (v : Value) (gs : List S114) (r : Int) (gs' : List S114) (hm : MK 128 w0 w b n ok v gs) (h : andS n x y gs = some (r, gs')) :
  Calls Try.prog 133 #[.pointer (some ⟨b, 0, none⟩), .int .i64 x, .int .i64 y] w fun e W' => e = .returned (.int .i64 r) ∧ ∃ v', MKe 128 w0 w W' b n ok v v' gs' := by
 have hu114 := Try.underlying114
 have HM := Aside0.mk hm
 have hmax : gs.length ≤ 9223372036854775807 := by
  obtain ⟨A, c, -, -, hC⟩ := Kd.R_reads hm.row
  exact Kd.C_max hC
 clear hm
 go_enter Try.func133, Try.ntmps133
 by_cases hxy : x > y
 ·have e1 : lo2 x y = y := if_pos hxy
  have e2 : hi2 x y = x := if_neg (by omega)
  unfold andS at h
  rw [e1, e2] at h
  clear e1 e2
  have hxz : x > y := hxy
  clear hxy
  go_upto_region 5 with fail
  clear hxz
  obtain ⟨a, rfl⟩ : ∃ a, a = y := ⟨_, rfl⟩
  obtain ⟨c, rfl⟩ : ∃ c, c = x := ⟨_, rfl⟩
  by_cases h0 : a = 0
  ·rw [if_pos h0] at h
   have t0 : (a == 0) = true := beq_iff_eq.mpr h0
   clear h0
   cases h
   go_wp2
   go_ret
   exact ⟨rfl, _, HM.out.done (Below.refl _ _)⟩
  rw [if_neg h0] at h
  have t0 : (a == 0) = false := beq_eq_false_iff_ne.mpr h0
  clear h0
  by_cases h2 : a = 1
  ·rw [if_pos h2] at h
   have t2 : (a == 1) = true := beq_iff_eq.mpr h2
   clear h2
   cases h
   go_wp2
   go_ret
   exact ⟨rfl, _, HM.out.done (Below.refl _ _)⟩
  rw [if_neg h2] at h
  have t2 : (a == 1) = false := beq_eq_false_iff_ne.mpr h2
  clear h2
  by_cases h3 : a = c
  ·rw [if_pos h3] at h
   have t3 : (a == c) = true := beq_iff_eq.mpr h3
   clear h3
   cases h
   go_wp2
   go_ret
   exact ⟨rfl, _, HM.out.done (Below.refl _ _)⟩
  rw [if_neg h3] at h
  have t3 : (a == c) = false := beq_eq_false_iff_ne.mpr h3
  clear h3
  by_cases h1 : wrap64 (Int.tdiv a 2) = wrap64 (Int.tdiv c 2)
  ·rw [if_pos h1] at h
   have t1 : (wrap64 (Int.tdiv a 2) == wrap64 (Int.tdiv c 2)) = true := beq_iff_eq.mpr h1
   clear h1
   cases h
   go_wp2
   go_ret
   exact ⟨rfl, _, HM.out.done (Below.refl _ _)⟩
  rw [if_neg h1] at h
  have t1 : (wrap64 (Int.tdiv a 2) == wrap64 (Int.tdiv c 2)) = false := beq_eq_false_iff_ne.mpr h1
  clear h1
  obtain ⟨fq, hfq⟩ : ∃ q, findG a c gs 0 = q := ⟨_, rfl⟩
  rw [hfq] at h
  have HFQ : Aside0 (findG a c (gs.drop 0) 0 = fq) := ⟨by rw [List.drop_zero]; exact hfq⟩
  have HH := Aside0.mk h
  clear h hfq
  go_upto_region 12 with (first
   | ((with_reducible refine gate_dst (N := 8) rfl ?_); refine box_event ?hg (N := 8) ?hd (cs := #[.int .i64 0, .int .i64 0]) (t := 114) ?hr ?_; (case hd => rfl); (case hg => rfl); (case hr => first | (go_simp; done) | (go_simp; rfl)); intro gb4 hgw wb4 hbox hbb; have hcz0 := (blk_cell hbox 0).trans (show _ = some (.int .i64 0) from rfl); have hfz0 := blk_frozen hbox 0; have hcz1 := (blk_cell hbox 1).trans (show _ = some (.int .i64 0) from rfl); have hfz1 := blk_frozen hbox 1; have hgw_ := Aside0.mk hgw; clear hgw; have hgw := hgw_; clear hgw_)
   | ((with_reducible refine gate_store (t := 114) (p := 8) rfl ?_); refine store_event (t := 114) (p := 8) (v := ?vo_8) (w1 := ((wb4.setCell ⟨gb4, 0, none⟩ (.int .i64 a)).setCell ⟨gb4, 1, none⟩ (.int .i64 c))) ?hg ?ho ?hn ?hr ?_; (case ho => rfl); (case hg => rfl); (case hn => rfl); (case hr => first | (go_simp; done) | (go_simp; rfl)); clear hcz0 hfz0 hcz1 hfz1; intro w4 hw_; obtain ⟨hbk, hb⟩ := box2n hgw.out hbox hbb; rw [← hw_] at hbk hb; clear hw_ hbox hbb; have HB4 := Aside0.mk hb; have HG4 := Aside0.mk hbk; have HGW := Aside0.mk hgw.out; clear hgw hb hbk))
  clear t0 t1 t2 t3
  obtain ⟨Av, cv, ev⟩ := Kd.R_slice HM.out.row
  subst ev
  have HM4 := Aside0.mk (HM.out.below HB4.out)
  go_wp2
  go_loopg [9] gs.length (fun gg v9 wr => ∃ (i : Nat), v9 = .int .i64 i ∧ i ≤ gs.length ∧ gs.length - i ≤ gg ∧ Aside0 (findG a c (gs.drop i) i = fq) ∧ Aside0 (MK 128 w0 wr b n ok (.slice Av gs.length cv) gs) ∧ Aside0 (wr.heap[gb4]? = some (.cells #[.int .i64 a, .int .i64 c] 114 (0, 0))) ∧ Aside0 (Below w.heap.size w wr))
  case atStart => exact ⟨0, rfl, Nat.zero_le _, by omega, HFQ, HM4, HG4, HB4⟩
  case round =>
   clear HFQ HM4 HG4 HB4
   obtain ⟨i, rfl, hi, hgk, HFQ, HM4, HG4, HB4⟩ := hrel
   have x0 := HM4.out.cells.1
   have x1 := HM4.out.cells.2
   by_cases hlt : i < gs.length
   ·have hltz : (i : Int) < (gs.length : Int) := by omega
    have h0z : (0 : Int) ≤ (i : Int) := by omega
    obtain ⟨ad, ea, hx0, hx1⟩ := at_T114 (Kd.R_reads' HM4.out.row).2.2 (i : Int) h0z hltz
    subst ea
    have hrd : rd_T114 gs (i : Int) = gs[i] := by unfold rd_T114; simp [List.getD, hlt]
    rw [Int.toNat_natCast, hrd] at hx0 hx1
    have hf := HFQ.out
    rw [List.drop_eq_getElem_cons hlt, findG] at hf
    have HF := Aside0.mk hf
    clear hf hrd HFQ
    generalize gs[i] = g9 at hx0 hx1 HF
    have y0 := (blk_cell HG4.out 0).trans (show _ = some (.int .i64 a) from rfl)
    have y1 := (blk_cell HG4.out 1).trans (show _ = some (.int .i64 c) from rfl)
    have ew : IntKind.i64.wrap ((i : Int) + 1) = ((i + 1 : Nat) : Int) := IntWalk.i64_in _ (by omega)
    have hf := HF.out
    go_upto_region 15 with fail
    refine start_ (n := 10) (S := fun w' => w'.cell? ⟨b, 1, none⟩ = some (.slice (some ad) gs.length cv) ∧ w'.cell? (ad.add (i * 2)) = some (.int .i64 g9.f0) ∧ w'.cell? ⟨(ad.add (i * 2)).block, (ad.add (i * 2)).off + 1, none⟩ = some (.int .i64 g9.f1) ∧ w'.cell? ⟨gb4, 0, none⟩ = some (.int .i64 a) ∧ w'.cell? ⟨gb4, 1, none⟩ = some (.int .i64 c)) (ds := []) #[false, false, false, false, false, false, false, false, false, false] (by kernel_rfl) rfl rfl ⟨x1, hx0, hx1, y0, y1⟩ (fun hHeld => ?_)
    refine with_tabW sa15_tab sa15_bits (fun HT_ HW_ => ?_)
    refine pure_ (i := 0) (N := some 47) (v := ?_) (a' := ?_) #[true, false, false, false, false, false, false, false, false, false] rfl rfl (any_of HT_.out (by kernel_rfl)) (fun _ _ _ h => h) (Or.inl ⟨by rfl, ?_⟩) ?_ ?_
    rotate_left
    ·intro w'
     go_simp
     with_reducible rfl
    rotate_left
    ·simp only [Act.put, List.setIfInBounds_toArray, List.set_cons_zero, List.set_cons_succ, i64_w, i32_w]
     rfl
    refine pure_ (i := 1) (N := some 48) (v := ?_) (a' := ?_) #[true, true, false, false, false, false, false, false, false, false] rfl rfl (any_of HT_.out (by kernel_rfl)) (fun _ _ _ h => h) (Or.inl ⟨by rfl, ?_⟩) ?_ ?_
    rotate_left
    ·intro w'
     go_simp
     with_reducible rfl
    rotate_left
    ·simp only [Act.put, List.setIfInBounds_toArray, List.set_cons_zero, List.set_cons_succ, i64_w, i32_w]
     rfl
    refine pure_ (i := 2) (N := some 49) (v := ?_) (a' := ?_) #[true, true, true, false, false, false, false, false, false, false] rfl rfl (any_of HT_.out (by kernel_rfl)) (fun _ _ _ h => h) (Or.inl ⟨by rfl, ?_⟩) ?_ ?_
    rotate_left
    ·intro w'
     go_simp
     with_reducible rfl
    rotate_left
    ·simp only [Act.put, List.setIfInBounds_toArray, List.set_cons_zero, List.set_cons_succ, i64_w, i32_w]
     rfl
    refine pure_ (i := 3) (N := some 50) (v := ?_) (a' := ?_) #[true, true, true, true, false, false, false, false, false, false] rfl rfl (any_of HT_.out (by kernel_rfl)) (fun _ _ _ h => h) (Or.inl ⟨by rfl, ?_⟩) ?_ ?_
    rotate_left
    ·intro w'
     go_simp
     with_reducible rfl
    rotate_left
    ·simp only [Act.put, List.setIfInBounds_toArray, List.set_cons_zero, List.set_cons_succ, i64_w, i32_w]
     rfl
    refine take_ (i := 4) (N := some 51) (v := ?_) (a' := ?_) #[true, true, true, true, true, false, false, false, false, false] rfl rfl (take_ofW HT_.out HW_.out (by kernel_rfl)) (fun _ _ _ h => h) (Or.inl ⟨by rfl, ?_⟩) hHeld ?_ ?_
    rotate_left
    ·rintro w' ⟨s0, s1, s2, s3, s4⟩
     go_simp
     with_reducible rfl
    rotate_left
    ·simp only [Act.put, List.setIfInBounds_toArray, List.set_cons_zero, List.set_cons_succ, i64_w, i32_w]
     rfl
    refine pure_ (i := 5) (N := some 52) (v := ?_) (a' := ?_) #[true, true, true, true, true, true, false, false, false, false] rfl rfl (any_of HT_.out (by kernel_rfl)) (fun _ _ _ h => h) (Or.inl ⟨by rfl, ?_⟩) ?_ ?_
    rotate_left
    ·intro w'
     go_simp
     with_reducible rfl
    rotate_left
    ·simp only [Act.put, List.setIfInBounds_toArray, List.set_cons_zero, List.set_cons_succ, i64_w, i32_w]
     rfl
    refine pure_ (i := 6) (N := some 53) (v := ?_) (a' := ?_) #[true, true, true, true, true, true, true, false, false, false] rfl rfl (any_of HT_.out (by kernel_rfl)) (fun _ _ _ h => h) (Or.inl ⟨by rfl, ?_⟩) ?_ ?_
    rotate_left
    ·intro w'
     go_simp
     with_reducible rfl
    rotate_left
    ·simp only [Act.put, List.setIfInBounds_toArray, List.set_cons_zero, List.set_cons_succ, i64_w, i32_w]
     rfl
    refine take_ (i := 7) (N := some 54) (v := ?_) (a' := ?_) #[true, true, true, true, true, true, true, true, false, false] rfl rfl (take_ofW HT_.out HW_.out (by kernel_rfl)) (fun _ _ _ h => h) (Or.inl ⟨by rfl, ?_⟩) hHeld ?_ ?_
    rotate_left
    ·rintro w' ⟨s0, s1, s2, s3, s4⟩
     go_simp
     with_reducible rfl
    rotate_left
    ·simp only [Act.put, List.setIfInBounds_toArray, List.set_cons_zero, List.set_cons_succ, i64_w, i32_w]
     rfl
    refine take_ (i := 8) (N := some 55) (v := ?_) (a' := ?_) #[true, true, true, true, true, true, true, true, true, false] rfl rfl (take_ofW HT_.out HW_.out (by kernel_rfl)) (fun _ _ _ h => h) (Or.inl ⟨by rfl, ?_⟩) hHeld ?_ ?_
    rotate_left
    ·rintro w' ⟨s0, s1, s2, s3, s4⟩
     go_simp
     with_reducible rfl
    rotate_left
    ·simp only [Act.put, List.setIfInBounds_toArray, List.set_cons_zero, List.set_cons_succ, i64_w, i32_w]
     rfl
    refine pure_ (i := 9) (N := some 56) (v := .bool (g9.f0 == a && g9.f1 == c)) (a' := ?_) #[true, true, true, true, true, true, true, true, true, true] rfl rfl (any_of HT_.out (by kernel_rfl)) (fun _ _ _ h => h) (Or.inl ⟨by rfl, ?_⟩) ?_ ?_
    ·intro w'
     go_simp
     by_cases e0 : g9.f0 = a
     ·by_cases e1 : g9.f1 = c
      ·rw [if_pos e0, if_pos e1, e0, e1]; simp
      ·rw [if_pos e0, if_neg e1, e0, beq_eq_false_iff_ne.mpr e1]; simp
     ·rw [if_neg e0, beq_eq_false_iff_ne.mpr e0]; simp
    rotate_left
    ·simp only [Act.put, List.setIfInBounds_toArray, List.set_cons_zero, List.set_cons_succ, i64_w, i32_w]
     rfl
    refine done_ (done_of HT_.out (by kernel_rfl)) ?_
    clear hHeld HT_ HW_
    have HMd := Aside0.mk (HM4.out.below (below_drew (Below.refl _ _)))
    have HGd : Aside0 (wr.drew.heap[gb4]? = some (.cells #[.int .i64 a, .int .i64 c] 114 (0, 0))) := ⟨HG4.out⟩
    have HBd := Aside0.mk (below_drew HB4.out)
    clear hx0 hx1 y0 y1 x0 x1 HM4 HG4 HB4
    generalize wr.drew = wd at HMd HGd HBd ⊢
    have x0 := HMd.out.cells.1
    cases hge : (g9.f0 == a && g9.f1 == c) with
    | true =>
     rw [hge, if_pos rfl] at hf
     subst hf
     have h := HH.out
     simp only at h
     cases h
     go_wp2
     go_ret
     exact ⟨rfl, _, HM.out.done HBd.out⟩
    | false =>
     rw [hge, if_neg (by decide)] at hf
     have HF2 := Aside0.mk hf
     clear hf HF
     go_wp2
     go_roundg (gk - 1)
     case measure => omega
     case rel => exact ⟨i + 1, rfl, by omega, by omega, HF2, HMd, HGd, HBd⟩
   ·obtain rfl : i = gs.length := by omega
    have hf := HFQ.out
    rw [List.drop_length, findG] at hf
    subst hf
    have h := HH.out
    simp only at h
    by_cases hl : gs.length ≤ 100000
    rotate_left
    ·rw [if_neg hl] at h; cases h
    rw [if_pos hl] at h
    cases h
    have HL := Aside0.mk hl
    clear hl hlt
    go_upto_region 17 with fail
    clear x0 x1
    refine start_ (n := 13) (S := fun w' => w'.cell? ⟨b, 1, none⟩ = some (.slice Av gs.length cv) ∧ w'.cell? ⟨gb4, 0, none⟩ = some (.int .i64 a) ∧ w'.cell? ⟨gb4, 1, none⟩ = some (.int .i64 c)) (ds := [12]) #[false, false, false, false, false, false, false, false, false, false, false, false, false] (by kernel_rfl) rfl rfl ⟨HM4.out.cells.2, (blk_cell HG4.out 0).trans rfl, (blk_cell HG4.out 1).trans rfl⟩ (fun hHeld => ?_)
    refine with_tabW sand_tab sand_bits (fun HT_ HW_ => ?_)
    have j0_ := Aside0.mk (HM4.out.below (below_drew (Below.refl _ _)))
    have j1_ : Aside0 (wr.drew.heap[gb4]? = some (.cells #[.int .i64 a, .int .i64 c] 114 (0, 0))) := ⟨HG4.out⟩
    have j2_ := Aside0.mk (below_drew HB4.out)
    clear HM4 HG4 HB4
    generalize wr.drew = w22 at j0_ j1_ j2_ hHeld ⊢
    refine pure_ (i := 0) (N := some 66) (v := ?_) (a' := ?_) #[true, false, false, false, false, false, false, false, false, false, false, false, false] rfl rfl (any_of HT_.out (by kernel_rfl)) (fun _ _ _ h => h) (Or.inl ⟨by rfl, ?_⟩) ?_ ?_
    rotate_left
    ·intro w'
     go_simp
     with_reducible rfl
    rotate_left
    ·simp only [Act.put, List.setIfInBounds_toArray, List.set_cons_zero, List.set_cons_succ, i64_w, i32_w]
     rfl
    refine pure_ (i := 1) (N := some 67) (v := ?_) (a' := ?_) #[true, true, false, false, false, false, false, false, false, false, false, false, false] rfl rfl (any_of HT_.out (by kernel_rfl)) (fun _ _ _ h => h) (Or.inl ⟨by rfl, ?_⟩) ?_ ?_
    rotate_left
    ·intro w'
     go_simp
     with_reducible rfl
    rotate_left
    ·simp only [Act.put, List.setIfInBounds_toArray, List.set_cons_zero, List.set_cons_succ, i64_w, i32_w]
     rfl
    refine pure_ (i := 2) (N := some 68) (v := ?_) (a' := ?_) #[true, true, true, false, false, false, false, false, false, false, false, false, false] rfl rfl (any_of HT_.out (by kernel_rfl)) (fun _ _ _ h => h) (Or.inl ⟨by rfl, ?_⟩) ?_ ?_
    rotate_left
    ·intro w'
     go_simp
     with_reducible rfl
    rotate_left
    ·simp only [Act.put, List.setIfInBounds_toArray, List.set_cons_zero, List.set_cons_succ, i64_w, i32_w]
     rfl
    refine pure_ (i := 3) (N := some 69) (v := ?_) (a' := ?_) #[true, true, true, true, false, false, false, false, false, false, false, false, false] rfl rfl (any_of HT_.out (by kernel_rfl)) (fun _ _ _ h => h) (Or.inl ⟨by rfl, ?_⟩) ?_ ?_
    rotate_left
    ·intro w'
     go_simp
     with_reducible rfl
    rotate_left
    ·simp only [Act.put, List.setIfInBounds_toArray, List.set_cons_zero, List.set_cons_succ, i64_w, i32_w]
     rfl
    refine pure_ (i := 4) (N := some 70) (v := ?_) (a' := ?_) #[true, true, true, true, true, false, false, false, false, false, false, false, false] rfl rfl (any_of HT_.out (by kernel_rfl)) (fun _ _ _ h => h) (Or.inl ⟨by rfl, ?_⟩) ?_ ?_
    rotate_left
    ·intro w'
     go_simp
     with_reducible rfl
    rotate_left
    ·simp only [Act.put, List.setIfInBounds_toArray, List.set_cons_zero, List.set_cons_succ, i64_w, i32_w]
     rfl
    refine take_ (i := 5) (N := some 71) (v := ?_) (a' := ?_) #[true, true, true, true, true, true, false, false, false, false, false, false, false] rfl rfl (take_ofW HT_.out HW_.out (by kernel_rfl)) (fun _ _ _ h => h) (Or.inl ⟨by rfl, ?_⟩) hHeld ?_ ?_
    rotate_left
    ·rintro w' ⟨s0, s1, s2⟩
     go_simp
     with_reducible rfl
    rotate_left
    ·simp only [Act.put, List.setIfInBounds_toArray, List.set_cons_zero, List.set_cons_succ, i64_w, i32_w]
     rfl
    refine take_ (i := 6) (N := some 72) (v := ?_) (a' := ?_) #[true, true, true, true, true, true, true, false, false, false, false, false, false] rfl rfl (take_ofW HT_.out HW_.out (by kernel_rfl)) (fun _ _ _ h => h) (Or.inl ⟨by rfl, ?_⟩) hHeld ?_ ?_
    rotate_left
    ·rintro w' ⟨s0, s1, s2⟩
     go_simp
     with_reducible rfl
    rotate_left
    ·simp only [Act.put, List.setIfInBounds_toArray, List.set_cons_zero, List.set_cons_succ, i64_w, i32_w]
     rfl
    refine one_ (i := 7) (N := some 73) #[true, true, true, true, true, true, true, true, false, false, false, false, false] rfl rfl (one_of HT_.out (by kernel_rfl)) (by decide) (fun K hK => ?_)
    refine value_ (w1 := ?_) (v := ?_) (by rfl) rfl ?_ ?_
    rotate_left 2
    ·go_simp
     constructor
     ·rfl
     ·rfl
    refine hK.out _ _ ⟨(blk_cell (blk_alloc j0_.out.blk _) 1).trans rfl, (blk_cell (blk_alloc j1_.out _) 0).trans rfl, (blk_cell (blk_alloc j1_.out _) 1).trans rfl⟩ (fun hHeld => ?_)
    clear hK K
    refine norm_ (a' := ?_) ?_ ?_
    rotate_left
    ·show Act.put _ (some 73) _ = _
     simp only [Act.put, List.setIfInBounds_toArray, List.set_cons_zero, List.set_cons_succ, i64_w, i32_w]
     rfl
    refine one_ (i := 8) (N := some 74) #[true, true, true, true, true, true, true, true, true, false, false, false, false] rfl rfl (one_of HT_.out (by kernel_rfl)) (by decide) (fun K hK => ?_)
    have HLT := Aside0.mk (show ∀ k, (Value.slice Av gs.length cv).ownBlock = some k → k < w.heap.size from fun k hk => Kd.R_lt HM.out.row k hk)
    refine Kd.R_append_step k114 (w0 := w0) w0.heap.size (by rfl) (.tmp 71) (.tmp 73) 44 114 (.agg #[.int .i64 0, .int .i64 0]) 16 rfl Try.underlying44 inf114 rfl (by decide) (by omega) (.slice Av gs.length cv) gs (⟨a, c⟩ : S114) [.int .i64 a, .int .i64 c] (RK ok w) (fun _ => False) rfl rfl ?aP (fun _ hk => hk.elim) ?aF ?aO ?aB ?aS ?aL ?_
    case aP => exact ⟨_, _, rfl, rfl, rfl⟩
    case aF => exact fun k hk => .inr (Nat.le_trans j2_.out.size hk)
    case aO => exact Kd.R_mono j0_.out.row (fun k hk => .inl hk)
    case aB => exact j0_.out.base
    case aS => exact j0_.out.base.size
    case aL => have := HL.out; omega
    intro v1 w23 ho hb hg hat
    obtain ⟨A1, c1_, e1_⟩ := Kd.R_slice ho
    rw [show (gs ++ [(⟨a, c⟩ : S114)]).length = gs.length + 1 by simp] at e1_
    subst e1_
    have m0_ := Aside0.mk (blk_grown j0_.out.blk hg (Kd.R_ne j0_.out.row j0_.out.blk (by decide)))
    have m1_ := Aside0.mk (blk_grown j1_.out hg (fun e => by have h9 := HLT.out gb4 e.symm; have := HGW.out; omega))
    have m2_ := Aside0.mk ho
    have m3_ := Aside0.mk hb
    have m4_ : Aside0 (Kept w w23 (GW b (.slice Av gs.length cv))) := ⟨Kept.of_grown hg (Kept.of_below j2_.out _) (fun k hk => .inl (.inr hk))⟩
    have m5_ : Aside0 ((Value.slice A1 (gs.length + 1) c1_).ownBlock = (Value.slice Av gs.length cv).ownBlock ∨ ∃ k, (Value.slice A1 (gs.length + 1) c1_).ownBlock = some k ∧ w.heap.size ≤ k) := ⟨hat.imp id (fun ⟨k, h1, h2⟩ => ⟨k, h1, Nat.le_trans j2_.out.size h2⟩)⟩
    clear j0_ j1_ j2_ ho hb hg hat
    refine hK.out _ _ ⟨(blk_cell m0_.out 1).trans rfl, (blk_cell m1_.out 0).trans rfl, (blk_cell m1_.out 1).trans rfl⟩ (fun hHeld => ?_)
    clear hK K
    refine norm_ (a' := ?_) ?_ ?_
    rotate_left
    ·show Act.put _ (some 74) _ = _
     simp only [Act.put, List.setIfInBounds_toArray, List.set_cons_zero, List.set_cons_succ, i64_w, i32_w]
     rfl
    refine pure_ (i := 9) (N := some 75) (v := ?_) (a' := ?_) #[true, true, true, true, true, true, true, true, true, true, false, false, false] rfl rfl (any_of HT_.out (by kernel_rfl)) (fun _ _ _ h => h) (Or.inl ⟨by rfl, ?_⟩) ?_ ?_
    rotate_left
    ·intro w'
     go_simp
     with_reducible rfl
    rotate_left
    ·simp only [Act.put, List.setIfInBounds_toArray, List.set_cons_zero, List.set_cons_succ, i64_w, i32_w]
     rfl
    refine pure_ (i := 10) (N := some 76) (v := ?_) (a' := ?_) #[true, true, true, true, true, true, true, true, true, true, true, false, false] rfl rfl (any_of HT_.out (by kernel_rfl)) (fun _ _ _ h => h) (Or.inl ⟨by rfl, ?_⟩) ?_ ?_
    rotate_left
    ·intro w'
     go_simp
     with_reducible rfl
    rotate_left
    ·simp only [Act.put, List.setIfInBounds_toArray, List.set_cons_zero, List.set_cons_succ, i64_w, i32_w]
     rfl
    refine pure_ (i := 11) (N := some 77) (v := ?_) (a' := ?_) #[true, true, true, true, true, true, true, true, true, true, true, true, false] rfl rfl (any_of HT_.out (by kernel_rfl)) (fun _ _ _ h => h) (Or.inl ⟨by rfl, ?_⟩) ?_ ?_
    rotate_left
    ·intro w'
     go_simp
     with_reducible rfl
    rotate_left
    ·simp only [Act.put, List.setIfInBounds_toArray, List.set_cons_zero, List.set_cons_succ, i64_w, i32_w]
     rfl
    refine last_ (i := 12) (N := none) #[true, true, true, true, true, true, true, true, true, true, true, true, true] rfl rfl (one_of HT_.out (by kernel_rfl)) (by decide) (fun K hK => ?_)
    have hs1 : w23.cell? ⟨b, 1, none⟩ = some (.slice Av gs.length cv) := (blk_cell m0_.out 1).trans rfl
    have hfs1 := blk_frozen m0_.out 1
    refine skip_ (w1 := ?_) (by rfl) rfl ?_ ?_
    rotate_left
    ·go_simp
     rfl
    refine hK.out _ _ ?_
    clear hK K
    refine done_ (done_of HT_.out (by kernel_rfl)) ?_
    clear hs1 hfs1
    have k0_ := Aside0.mk (show (w23.setCell ⟨b, 1, none⟩ (.slice A1 (gs.length + 1) c1_)).heap[b]? = some (.cells #[.int .i64 n, .slice A1 (gs.length + 1) c1_] 128 (0, 0)) from heap_set m0_.out)
    have k1_ := Aside0.mk (Kd.R_set m2_.out m0_.out (by decide) 1 (.slice A1 (gs.length + 1) c1_))
    have k2_ := Aside0.mk (m3_.out.setCell (p := ⟨b, 1, none⟩) HM.out.old (.slice A1 (gs.length + 1) c1_))
    have k3_ := Aside0.mk (m4_.out.setCell (p := ⟨b, 1, none⟩) (.inl (.inl rfl)) (.slice A1 (gs.length + 1) c1_))
    clear m0_ m1_ m2_ m3_ m4_
    generalize w23.setCell ⟨b, 1, none⟩ (.slice A1 (gs.length + 1) c1_) = w24 at k0_ k1_ k2_ k3_ ⊢
    go_upto_region 18 with fail
    refine start_ (n := 14) (S := fun w' => w'.cell? ⟨b, 0, none⟩ = some (.int .i64 n) ∧ w'.cell? ⟨b, 1, none⟩ = some (.slice A1 (gs.length + 1) c1_)) (ds := []) #[false, false, false, false, false, false, false, false, false, false, false, false, false, false] (by kernel_rfl) rfl rfl ⟨(blk_cell k0_.out 0).trans rfl, (blk_cell k0_.out 1).trans rfl⟩ (fun hHeld => ?_)
    refine with_tabW sa18_tab sa18_bits (fun HT_ HW_ => ?_)
    refine pure_ (i := 0) (N := some 78) (v := ?_) (a' := ?_) #[true, false, false, false, false, false, false, false, false, false, false, false, false, false] rfl rfl (any_of HT_.out (by kernel_rfl)) (fun _ _ _ h => h) (Or.inl ⟨by rfl, ?_⟩) ?_ ?_
    rotate_left
    ·intro w'
     go_simp
     with_reducible rfl
    rotate_left
    ·simp only [Act.put, List.setIfInBounds_toArray, List.set_cons_zero, List.set_cons_succ, i64_w, i32_w]
     rfl
    refine pure_ (i := 1) (N := some 79) (v := ?_) (a' := ?_) #[true, true, false, false, false, false, false, false, false, false, false, false, false, false] rfl rfl (any_of HT_.out (by kernel_rfl)) (fun _ _ _ h => h) (Or.inl ⟨by rfl, ?_⟩) ?_ ?_
    rotate_left
    ·intro w'
     go_simp
     with_reducible rfl
    rotate_left
    ·simp only [Act.put, List.setIfInBounds_toArray, List.set_cons_zero, List.set_cons_succ, i64_w, i32_w]
     rfl
    refine pure_ (i := 2) (N := some 80) (v := ?_) (a' := ?_) #[true, true, true, false, false, false, false, false, false, false, false, false, false, false] rfl rfl (any_of HT_.out (by kernel_rfl)) (fun _ _ _ h => h) (Or.inl ⟨by rfl, ?_⟩) ?_ ?_
    rotate_left
    ·intro w'
     go_simp
     with_reducible rfl
    rotate_left
    ·simp only [Act.put, List.setIfInBounds_toArray, List.set_cons_zero, List.set_cons_succ, i64_w, i32_w]
     rfl
    refine pure_ (i := 3) (N := some 81) (v := ?_) (a' := ?_) #[true, true, true, true, false, false, false, false, false, false, false, false, false, false] rfl rfl (any_of HT_.out (by kernel_rfl)) (fun _ _ _ h => h) (Or.inl ⟨by rfl, ?_⟩) ?_ ?_
    rotate_left
    ·intro w'
     go_simp
     with_reducible rfl
    rotate_left
    ·simp only [Act.put, List.setIfInBounds_toArray, List.set_cons_zero, List.set_cons_succ, i64_w, i32_w]
     rfl
    refine take_ (i := 4) (N := some 82) (v := ?_) (a' := ?_) #[true, true, true, true, true, false, false, false, false, false, false, false, false, false] rfl rfl (take_ofW HT_.out HW_.out (by kernel_rfl)) (fun _ _ _ h => h) (Or.inl ⟨by rfl, ?_⟩) hHeld ?_ ?_
    rotate_left
    ·rintro w' ⟨s0, s1⟩
     go_simp
     with_reducible rfl
    rotate_left
    ·simp only [Act.put, List.setIfInBounds_toArray, List.set_cons_zero, List.set_cons_succ, i64_w, i32_w]
     rfl
    refine pure_ (i := 5) (N := some 83) (v := ?_) (a' := ?_) #[true, true, true, true, true, true, false, false, false, false, false, false, false, false] rfl rfl (any_of HT_.out (by kernel_rfl)) (fun _ _ _ h => h) (Or.inl ⟨by rfl, ?_⟩) ?_ ?_
    rotate_left
    ·intro w'
     go_simp
     with_reducible rfl
    rotate_left
    ·simp only [Act.put, List.setIfInBounds_toArray, List.set_cons_zero, List.set_cons_succ, i64_w, i32_w]
     rfl
    refine pure_ (i := 6) (N := some 84) (v := ?_) (a' := ?_) #[true, true, true, true, true, true, true, false, false, false, false, false, false, false] rfl rfl (any_of HT_.out (by kernel_rfl)) (fun _ _ _ h => h) (Or.inl ⟨by rfl, ?_⟩) ?_ ?_
    rotate_left
    ·intro w'
     go_simp
     with_reducible rfl
    rotate_left
    ·simp only [Act.put, List.setIfInBounds_toArray, List.set_cons_zero, List.set_cons_succ, i64_w, i32_w]
     rfl
    refine pure_ (i := 7) (N := some 85) (v := ?_) (a' := ?_) #[true, true, true, true, true, true, true, true, false, false, false, false, false, false] rfl rfl (any_of HT_.out (by kernel_rfl)) (fun _ _ _ h => h) (Or.inl ⟨by rfl, ?_⟩) ?_ ?_
    rotate_left
    ·intro w'
     go_simp
     with_reducible rfl
    rotate_left
    ·simp only [Act.put, List.setIfInBounds_toArray, List.set_cons_zero, List.set_cons_succ, i64_w, i32_w]
     rfl
    refine pure_ (i := 8) (N := some 86) (v := ?_) (a' := ?_) #[true, true, true, true, true, true, true, true, true, false, false, false, false, false] rfl rfl (any_of HT_.out (by kernel_rfl)) (fun _ _ _ h => h) (Or.inl ⟨by rfl, ?_⟩) ?_ ?_
    rotate_left
    ·intro w'
     go_simp
     with_reducible rfl
    rotate_left
    ·simp only [Act.put, List.setIfInBounds_toArray, List.set_cons_zero, List.set_cons_succ, i64_w, i32_w]
     rfl
    refine take_ (i := 9) (N := some 87) (v := ?_) (a' := ?_) #[true, true, true, true, true, true, true, true, true, true, false, false, false, false] rfl rfl (take_ofW HT_.out HW_.out (by kernel_rfl)) (fun _ _ _ h => h) (Or.inl ⟨by rfl, ?_⟩) hHeld ?_ ?_
    rotate_left
    ·rintro w' ⟨s0, s1⟩
     go_simp
     with_reducible rfl
    rotate_left
    ·simp only [Act.put, List.setIfInBounds_toArray, List.set_cons_zero, List.set_cons_succ, i64_w, i32_w]
     rfl
    refine pure_ (i := 10) (N := some 88) (v := ?_) (a' := ?_) #[true, true, true, true, true, true, true, true, true, true, true, false, false, false] rfl rfl (any_of HT_.out (by kernel_rfl)) (fun _ _ _ h => h) (Or.inl ⟨by rfl, ?_⟩) ?_ ?_
    rotate_left
    ·intro w'
     go_simp
     with_reducible rfl
    rotate_left
    ·simp only [Act.put, List.setIfInBounds_toArray, List.set_cons_zero, List.set_cons_succ, i64_w, i32_w]
     rfl
    refine pure_ (i := 11) (N := some 89) (v := ?_) (a' := ?_) #[true, true, true, true, true, true, true, true, true, true, true, true, false, false] rfl rfl (any_of HT_.out (by kernel_rfl)) (fun _ _ _ h => h) (Or.inl ⟨by rfl, ?_⟩) ?_ ?_
    rotate_left
    ·intro w'
     go_simp
     with_reducible rfl
    rotate_left
    ·simp only [Act.put, List.setIfInBounds_toArray, List.set_cons_zero, List.set_cons_succ, i64_w, i32_w]
     rfl
    refine pure_ (i := 12) (N := some 90) (v := ?_) (a' := ?_) #[true, true, true, true, true, true, true, true, true, true, true, true, true, false] rfl rfl (any_of HT_.out (by kernel_rfl)) (fun _ _ _ h => h) (Or.inl ⟨by rfl, ?_⟩) ?_ ?_
    rotate_left
    ·intro w'
     go_simp
     with_reducible rfl
    rotate_left
    ·simp only [Act.put, List.setIfInBounds_toArray, List.set_cons_zero, List.set_cons_succ, i64_w, i32_w]
     rfl
    refine pure_ (i := 13) (N := some 6) (v := ?_) (a' := ?_) #[true, true, true, true, true, true, true, true, true, true, true, true, true, true] rfl rfl (any_of HT_.out (by kernel_rfl)) (fun _ _ _ h => h) (Or.inl ⟨by rfl, ?_⟩) ?_ ?_
    rotate_left
    ·intro w'
     go_simp
     with_reducible rfl
    rotate_left
    ·simp only [Act.put, List.setIfInBounds_toArray, List.set_cons_zero, List.set_cons_succ, i64_w, i32_w]
     rfl
    refine done_ (done_of HT_.out (by kernel_rfl)) ?_
    clear hHeld HT_ HW_
    go_wp2
    go_ret
    exact ⟨rfl, _, MKe.below ⟨⟨k2_.out, HM.out.old, k0_.out, k1_.out⟩, k3_.out, m5_.out⟩ (below_drew (Below.refl _ _))⟩
 ·have e1 : lo2 x y = x := if_neg (by omega)
  have e2 : hi2 x y = y := by unfold hi2; split <;> omega
  unfold andS at h
  rw [e1, e2] at h
  clear e1 e2
  have hxz : ¬ x > y := hxy
  clear hxy
  go_upto_region 5 with fail
  clear hxz
  obtain ⟨a, rfl⟩ : ∃ a, a = x := ⟨_, rfl⟩
  obtain ⟨c, rfl⟩ : ∃ c, c = y := ⟨_, rfl⟩
  by_cases h0 : a = 0
  ·rw [if_pos h0] at h
   have t0 : (a == 0) = true := beq_iff_eq.mpr h0
   clear h0
   cases h
   go_wp2
   go_ret
   exact ⟨rfl, _, HM.out.done (Below.refl _ _)⟩
  rw [if_neg h0] at h
  have t0 : (a == 0) = false := beq_eq_false_iff_ne.mpr h0
  clear h0
  by_cases h2 : a = 1
  ·rw [if_pos h2] at h
   have t2 : (a == 1) = true := beq_iff_eq.mpr h2
   clear h2
   cases h
   go_wp2
   go_ret
   exact ⟨rfl, _, HM.out.done (Below.refl _ _)⟩
  rw [if_neg h2] at h
  have t2 : (a == 1) = false := beq_eq_false_iff_ne.mpr h2
  clear h2
  by_cases h3 : a = c
  ·rw [if_pos h3] at h
   have t3 : (a == c) = true := beq_iff_eq.mpr h3
   clear h3
   cases h
   go_wp2
   go_ret
   exact ⟨rfl, _, HM.out.done (Below.refl _ _)⟩
  rw [if_neg h3] at h
  have t3 : (a == c) = false := beq_eq_false_iff_ne.mpr h3
  clear h3
  by_cases h1 : wrap64 (Int.tdiv a 2) = wrap64 (Int.tdiv c 2)
  ·rw [if_pos h1] at h
   have t1 : (wrap64 (Int.tdiv a 2) == wrap64 (Int.tdiv c 2)) = true := beq_iff_eq.mpr h1
   clear h1
   cases h
   go_wp2
   go_ret
   exact ⟨rfl, _, HM.out.done (Below.refl _ _)⟩
  rw [if_neg h1] at h
  have t1 : (wrap64 (Int.tdiv a 2) == wrap64 (Int.tdiv c 2)) = false := beq_eq_false_iff_ne.mpr h1
  clear h1
  obtain ⟨fq, hfq⟩ : ∃ q, findG a c gs 0 = q := ⟨_, rfl⟩
  rw [hfq] at h
  have HFQ : Aside0 (findG a c (gs.drop 0) 0 = fq) := ⟨by rw [List.drop_zero]; exact hfq⟩
  have HH := Aside0.mk h
  clear h hfq
  go_upto_region 12 with (first
   | ((with_reducible refine gate_dst (N := 8) rfl ?_); refine box_event ?hg (N := 8) ?hd (cs := #[.int .i64 0, .int .i64 0]) (t := 114) ?hr ?_; (case hd => rfl); (case hg => rfl); (case hr => first | (go_simp; done) | (go_simp; rfl)); intro gb4 hgw wb4 hbox hbb; have hcz0 := (blk_cell hbox 0).trans (show _ = some (.int .i64 0) from rfl); have hfz0 := blk_frozen hbox 0; have hcz1 := (blk_cell hbox 1).trans (show _ = some (.int .i64 0) from rfl); have hfz1 := blk_frozen hbox 1; have hgw_ := Aside0.mk hgw; clear hgw; have hgw := hgw_; clear hgw_)
   | ((with_reducible refine gate_store (t := 114) (p := 8) rfl ?_); refine store_event (t := 114) (p := 8) (v := ?vo_8) (w1 := ((wb4.setCell ⟨gb4, 0, none⟩ (.int .i64 a)).setCell ⟨gb4, 1, none⟩ (.int .i64 c))) ?hg ?ho ?hn ?hr ?_; (case ho => rfl); (case hg => rfl); (case hn => rfl); (case hr => first | (go_simp; done) | (go_simp; rfl)); clear hcz0 hfz0 hcz1 hfz1; intro w4 hw_; obtain ⟨hbk, hb⟩ := box2n hgw.out hbox hbb; rw [← hw_] at hbk hb; clear hw_ hbox hbb; have HB4 := Aside0.mk hb; have HG4 := Aside0.mk hbk; have HGW := Aside0.mk hgw.out; clear hgw hb hbk))
  clear t0 t1 t2 t3
  obtain ⟨Av, cv, ev⟩ := Kd.R_slice HM.out.row
  subst ev
  have HM4 := Aside0.mk (HM.out.below HB4.out)
  go_wp2
  go_loopg [9] gs.length (fun gg v9 wr => ∃ (i : Nat), v9 = .int .i64 i ∧ i ≤ gs.length ∧ gs.length - i ≤ gg ∧ Aside0 (findG a c (gs.drop i) i = fq) ∧ Aside0 (MK 128 w0 wr b n ok (.slice Av gs.length cv) gs) ∧ Aside0 (wr.heap[gb4]? = some (.cells #[.int .i64 a, .int .i64 c] 114 (0, 0))) ∧ Aside0 (Below w.heap.size w wr))
  case atStart => exact ⟨0, rfl, Nat.zero_le _, by omega, HFQ, HM4, HG4, HB4⟩
  case round =>
   clear HFQ HM4 HG4 HB4
   obtain ⟨i, rfl, hi, hgk, HFQ, HM4, HG4, HB4⟩ := hrel
   have x0 := HM4.out.cells.1
   have x1 := HM4.out.cells.2
   by_cases hlt : i < gs.length
   ·have hltz : (i : Int) < (gs.length : Int) := by omega
    have h0z : (0 : Int) ≤ (i : Int) := by omega
    obtain ⟨ad, ea, hx0, hx1⟩ := at_T114 (Kd.R_reads' HM4.out.row).2.2 (i : Int) h0z hltz
    subst ea
    have hrd : rd_T114 gs (i : Int) = gs[i] := by unfold rd_T114; simp [List.getD, hlt]
    rw [Int.toNat_natCast, hrd] at hx0 hx1
    have hf := HFQ.out
    rw [List.drop_eq_getElem_cons hlt, findG] at hf
    have HF := Aside0.mk hf
    clear hf hrd HFQ
    generalize gs[i] = g9 at hx0 hx1 HF
    have y0 := (blk_cell HG4.out 0).trans (show _ = some (.int .i64 a) from rfl)
    have y1 := (blk_cell HG4.out 1).trans (show _ = some (.int .i64 c) from rfl)
    have ew : IntKind.i64.wrap ((i : Int) + 1) = ((i + 1 : Nat) : Int) := IntWalk.i64_in _ (by omega)
    have hf := HF.out
    go_upto_region 15 with fail
    refine start_ (n := 10) (S := fun w' => w'.cell? ⟨b, 1, none⟩ = some (.slice (some ad) gs.length cv) ∧ w'.cell? (ad.add (i * 2)) = some (.int .i64 g9.f0) ∧ w'.cell? ⟨(ad.add (i * 2)).block, (ad.add (i * 2)).off + 1, none⟩ = some (.int .i64 g9.f1) ∧ w'.cell? ⟨gb4, 0, none⟩ = some (.int .i64 a) ∧ w'.cell? ⟨gb4, 1, none⟩ = some (.int .i64 c)) (ds := []) #[false, false, false, false, false, false, false, false, false, false] (by kernel_rfl) rfl rfl ⟨x1, hx0, hx1, y0, y1⟩ (fun hHeld => ?_)
    refine with_tabW sa15_tab sa15_bits (fun HT_ HW_ => ?_)
    refine pure_ (i := 0) (N := some 47) (v := ?_) (a' := ?_) #[true, false, false, false, false, false, false, false, false, false] rfl rfl (any_of HT_.out (by kernel_rfl)) (fun _ _ _ h => h) (Or.inl ⟨by rfl, ?_⟩) ?_ ?_
    rotate_left
    ·intro w'
     go_simp
     with_reducible rfl
    rotate_left
    ·simp only [Act.put, List.setIfInBounds_toArray, List.set_cons_zero, List.set_cons_succ, i64_w, i32_w]
     rfl
    refine pure_ (i := 1) (N := some 48) (v := ?_) (a' := ?_) #[true, true, false, false, false, false, false, false, false, false] rfl rfl (any_of HT_.out (by kernel_rfl)) (fun _ _ _ h => h) (Or.inl ⟨by rfl, ?_⟩) ?_ ?_
    rotate_left
    ·intro w'
     go_simp
     with_reducible rfl
    rotate_left
    ·simp only [Act.put, List.setIfInBounds_toArray, List.set_cons_zero, List.set_cons_succ, i64_w, i32_w]
     rfl
    refine pure_ (i := 2) (N := some 49) (v := ?_) (a' := ?_) #[true, true, true, false, false, false, false, false, false, false] rfl rfl (any_of HT_.out (by kernel_rfl)) (fun _ _ _ h => h) (Or.inl ⟨by rfl, ?_⟩) ?_ ?_
    rotate_left
    ·intro w'
     go_simp
     with_reducible rfl
    rotate_left
    ·simp only [Act.put, List.setIfInBounds_toArray, List.set_cons_zero, List.set_cons_succ, i64_w, i32_w]
     rfl
    refine pure_ (i := 3) (N := some 50) (v := ?_) (a' := ?_) #[true, true, true, true, false, false, false, false, false, false] rfl rfl (any_of HT_.out (by kernel_rfl)) (fun _ _ _ h => h) (Or.inl ⟨by rfl, ?_⟩) ?_ ?_
    rotate_left
    ·intro w'
     go_simp
     with_reducible rfl
    rotate_left
    ·simp only [Act.put, List.setIfInBounds_toArray, List.set_cons_zero, List.set_cons_succ, i64_w, i32_w]
     rfl
    refine take_ (i := 4) (N := some 51) (v := ?_) (a' := ?_) #[true, true, true, true, true, false, false, false, false, false] rfl rfl (take_ofW HT_.out HW_.out (by kernel_rfl)) (fun _ _ _ h => h) (Or.inl ⟨by rfl, ?_⟩) hHeld ?_ ?_
    rotate_left
    ·rintro w' ⟨s0, s1, s2, s3, s4⟩
     go_simp
     with_reducible rfl
    rotate_left
    ·simp only [Act.put, List.setIfInBounds_toArray, List.set_cons_zero, List.set_cons_succ, i64_w, i32_w]
     rfl
    refine pure_ (i := 5) (N := some 52) (v := ?_) (a' := ?_) #[true, true, true, true, true, true, false, false, false, false] rfl rfl (any_of HT_.out (by kernel_rfl)) (fun _ _ _ h => h) (Or.inl ⟨by rfl, ?_⟩) ?_ ?_
    rotate_left
    ·intro w'
     go_simp
     with_reducible rfl
    rotate_left
    ·simp only [Act.put, List.setIfInBounds_toArray, List.set_cons_zero, List.set_cons_succ, i64_w, i32_w]
     rfl
    refine pure_ (i := 6) (N := some 53) (v := ?_) (a' := ?_) #[true, true, true, true, true, true, true, false, false, false] rfl rfl (any_of HT_.out (by kernel_rfl)) (fun _ _ _ h => h) (Or.inl ⟨by rfl, ?_⟩) ?_ ?_
    rotate_left
    ·intro w'
     go_simp
     with_reducible rfl
    rotate_left
    ·simp only [Act.put, List.setIfInBounds_toArray, List.set_cons_zero, List.set_cons_succ, i64_w, i32_w]
     rfl
    refine take_ (i := 7) (N := some 54) (v := ?_) (a' := ?_) #[true, true, true, true, true, true, true, true, false, false] rfl rfl (take_ofW HT_.out HW_.out (by kernel_rfl)) (fun _ _ _ h => h) (Or.inl ⟨by rfl, ?_⟩) hHeld ?_ ?_
    rotate_left
    ·rintro w' ⟨s0, s1, s2, s3, s4⟩
     go_simp
     with_reducible rfl
    rotate_left
    ·simp only [Act.put, List.setIfInBounds_toArray, List.set_cons_zero, List.set_cons_succ, i64_w, i32_w]
     rfl
    refine take_ (i := 8) (N := some 55) (v := ?_) (a' := ?_) #[true, true, true, true, true, true, true, true, true, false] rfl rfl (take_ofW HT_.out HW_.out (by kernel_rfl)) (fun _ _ _ h => h) (Or.inl ⟨by rfl, ?_⟩) hHeld ?_ ?_
    rotate_left
    ·rintro w' ⟨s0, s1, s2, s3, s4⟩
     go_simp
     with_reducible rfl
    rotate_left
    ·simp only [Act.put, List.setIfInBounds_toArray, List.set_cons_zero, List.set_cons_succ, i64_w, i32_w]
     rfl
    refine pure_ (i := 9) (N := some 56) (v := .bool (g9.f0 == a && g9.f1 == c)) (a' := ?_) #[true, true, true, true, true, true, true, true, true, true] rfl rfl (any_of HT_.out (by kernel_rfl)) (fun _ _ _ h => h) (Or.inl ⟨by rfl, ?_⟩) ?_ ?_
    ·intro w'
     go_simp
     by_cases e0 : g9.f0 = a
     ·by_cases e1 : g9.f1 = c
      ·rw [if_pos e0, if_pos e1, e0, e1]; simp
      ·rw [if_pos e0, if_neg e1, e0, beq_eq_false_iff_ne.mpr e1]; simp
     ·rw [if_neg e0, beq_eq_false_iff_ne.mpr e0]; simp
    rotate_left
    ·simp only [Act.put, List.setIfInBounds_toArray, List.set_cons_zero, List.set_cons_succ, i64_w, i32_w]
     rfl
    refine done_ (done_of HT_.out (by kernel_rfl)) ?_
    clear hHeld HT_ HW_
    have HMd := Aside0.mk (HM4.out.below (below_drew (Below.refl _ _)))
    have HGd : Aside0 (wr.drew.heap[gb4]? = some (.cells #[.int .i64 a, .int .i64 c] 114 (0, 0))) := ⟨HG4.out⟩
    have HBd := Aside0.mk (below_drew HB4.out)
    clear hx0 hx1 y0 y1 x0 x1 HM4 HG4 HB4
    generalize wr.drew = wd at HMd HGd HBd ⊢
    have x0 := HMd.out.cells.1
    cases hge : (g9.f0 == a && g9.f1 == c) with
    | true =>
     rw [hge, if_pos rfl] at hf
     subst hf
     have h := HH.out
     simp only at h
     cases h
     go_wp2
     go_ret
     exact ⟨rfl, _, HM.out.done HBd.out⟩
    | false =>
     rw [hge, if_neg (by decide)] at hf
     have HF2 := Aside0.mk hf
     clear hf HF
     go_wp2
     go_roundg (gk - 1)
     case measure => omega
     case rel => exact ⟨i + 1, rfl, by omega, by omega, HF2, HMd, HGd, HBd⟩
   ·obtain rfl : i = gs.length := by omega
    have hf := HFQ.out
    rw [List.drop_length, findG] at hf
    subst hf
    have h := HH.out
    simp only at h
    by_cases hl : gs.length ≤ 100000
    rotate_left
    ·rw [if_neg hl] at h; cases h
    rw [if_pos hl] at h
    cases h
    have HL := Aside0.mk hl
    clear hl hlt
    go_upto_region 17 with fail
    clear x0 x1
    refine start_ (n := 13) (S := fun w' => w'.cell? ⟨b, 1, none⟩ = some (.slice Av gs.length cv) ∧ w'.cell? ⟨gb4, 0, none⟩ = some (.int .i64 a) ∧ w'.cell? ⟨gb4, 1, none⟩ = some (.int .i64 c)) (ds := [12]) #[false, false, false, false, false, false, false, false, false, false, false, false, false] (by kernel_rfl) rfl rfl ⟨HM4.out.cells.2, (blk_cell HG4.out 0).trans rfl, (blk_cell HG4.out 1).trans rfl⟩ (fun hHeld => ?_)
    refine with_tabW sand_tab sand_bits (fun HT_ HW_ => ?_)
    have j0_ := Aside0.mk (HM4.out.below (below_drew (Below.refl _ _)))
    have j1_ : Aside0 (wr.drew.heap[gb4]? = some (.cells #[.int .i64 a, .int .i64 c] 114 (0, 0))) := ⟨HG4.out⟩
    have j2_ := Aside0.mk (below_drew HB4.out)
    clear HM4 HG4 HB4
    generalize wr.drew = w22 at j0_ j1_ j2_ hHeld ⊢
    refine pure_ (i := 0) (N := some 66) (v := ?_) (a' := ?_) #[true, false, false, false, false, false, false, false, false, false, false, false, false] rfl rfl (any_of HT_.out (by kernel_rfl)) (fun _ _ _ h => h) (Or.inl ⟨by rfl, ?_⟩) ?_ ?_
    rotate_left
    ·intro w'
     go_simp
     with_reducible rfl
    rotate_left
    ·simp only [Act.put, List.setIfInBounds_toArray, List.set_cons_zero, List.set_cons_succ, i64_w, i32_w]
     rfl
    refine pure_ (i := 1) (N := some 67) (v := ?_) (a' := ?_) #[true, true, false, false, false, false, false, false, false, false, false, false, false] rfl rfl (any_of HT_.out (by kernel_rfl)) (fun _ _ _ h => h) (Or.inl ⟨by rfl, ?_⟩) ?_ ?_
    rotate_left
    ·intro w'
     go_simp
     with_reducible rfl
    rotate_left
    ·simp only [Act.put, List.setIfInBounds_toArray, List.set_cons_zero, List.set_cons_succ, i64_w, i32_w]
     rfl
    refine pure_ (i := 2) (N := some 68) (v := ?_) (a' := ?_) #[true, true, true, false, false, false, false, false, false, false, false, false, false] rfl rfl (any_of HT_.out (by kernel_rfl)) (fun _ _ _ h => h) (Or.inl ⟨by rfl, ?_⟩) ?_ ?_
    rotate_left
    ·intro w'
     go_simp
     with_reducible rfl
    rotate_left
    ·simp only [Act.put, List.setIfInBounds_toArray, List.set_cons_zero, List.set_cons_succ, i64_w, i32_w]
     rfl
    refine pure_ (i := 3) (N := some 69) (v := ?_) (a' := ?_) #[true, true, true, true, false, false, false, false, false, false, false, false, false] rfl rfl (any_of HT_.out (by kernel_rfl)) (fun _ _ _ h => h) (Or.inl ⟨by rfl, ?_⟩) ?_ ?_
    rotate_left
    ·intro w'
     go_simp
     with_reducible rfl
    rotate_left
    ·simp only [Act.put, List.setIfInBounds_toArray, List.set_cons_zero, List.set_cons_succ, i64_w, i32_w]
     rfl
    refine pure_ (i := 4) (N := some 70) (v := ?_) (a' := ?_) #[true, true, true, true, true, false, false, false, false, false, false, false, false] rfl rfl (any_of HT_.out (by kernel_rfl)) (fun _ _ _ h => h) (Or.inl ⟨by rfl, ?_⟩) ?_ ?_
    rotate_left
    ·intro w'
     go_simp
     with_reducible rfl
    rotate_left
    ·simp only [Act.put, List.setIfInBounds_toArray, List.set_cons_zero, List.set_cons_succ, i64_w, i32_w]
     rfl
    refine take_ (i := 5) (N := some 71) (v := ?_) (a' := ?_) #[true, true, true, true, true, true, false, false, false, false, false, false, false] rfl rfl (take_ofW HT_.out HW_.out (by kernel_rfl)) (fun _ _ _ h => h) (Or.inl ⟨by rfl, ?_⟩) hHeld ?_ ?_
    rotate_left
    ·rintro w' ⟨s0, s1, s2⟩
     go_simp
     with_reducible rfl
    rotate_left
    ·simp only [Act.put, List.setIfInBounds_toArray, List.set_cons_zero, List.set_cons_succ, i64_w, i32_w]
     rfl
    refine take_ (i := 6) (N := some 72) (v := ?_) (a' := ?_) #[true, true, true, true, true, true, true, false, false, false, false, false, false] rfl rfl (take_ofW HT_.out HW_.out (by kernel_rfl)) (fun _ _ _ h => h) (Or.inl ⟨by rfl, ?_⟩) hHeld ?_ ?_
    rotate_left
    ·rintro w' ⟨s0, s1, s2⟩
     go_simp
     with_reducible rfl
    rotate_left
    ·simp only [Act.put, List.setIfInBounds_toArray, List.set_cons_zero, List.set_cons_succ, i64_w, i32_w]
     rfl
    refine one_ (i := 7) (N := some 73) #[true, true, true, true, true, true, true, true, false, false, false, false, false] rfl rfl (one_of HT_.out (by kernel_rfl)) (by decide) (fun K hK => ?_)
    refine value_ (w1 := ?_) (v := ?_) (by rfl) rfl ?_ ?_
    rotate_left 2
    ·go_simp
     constructor
     ·rfl
     ·rfl
    refine hK.out _ _ ⟨(blk_cell (blk_alloc j0_.out.blk _) 1).trans rfl, (blk_cell (blk_alloc j1_.out _) 0).trans rfl, (blk_cell (blk_alloc j1_.out _) 1).trans rfl⟩ (fun hHeld => ?_)
    clear hK K
    refine norm_ (a' := ?_) ?_ ?_
    rotate_left
    ·show Act.put _ (some 73) _ = _
     simp only [Act.put, List.setIfInBounds_toArray, List.set_cons_zero, List.set_cons_succ, i64_w, i32_w]
     rfl
    refine one_ (i := 8) (N := some 74) #[true, true, true, true, true, true, true, true, true, false, false, false, false] rfl rfl (one_of HT_.out (by kernel_rfl)) (by decide) (fun K hK => ?_)
    have HLT := Aside0.mk (show ∀ k, (Value.slice Av gs.length cv).ownBlock = some k → k < w.heap.size from fun k hk => Kd.R_lt HM.out.row k hk)
    refine Kd.R_append_step k114 (w0 := w0) w0.heap.size (by rfl) (.tmp 71) (.tmp 73) 44 114 (.agg #[.int .i64 0, .int .i64 0]) 16 rfl Try.underlying44 inf114 rfl (by decide) (by omega) (.slice Av gs.length cv) gs (⟨a, c⟩ : S114) [.int .i64 a, .int .i64 c] (RK ok w) (fun _ => False) rfl rfl ?aP (fun _ hk => hk.elim) ?aF ?aO ?aB ?aS ?aL ?_
    case aP => exact ⟨_, _, rfl, rfl, rfl⟩
    case aF => exact fun k hk => .inr (Nat.le_trans j2_.out.size hk)
    case aO => exact Kd.R_mono j0_.out.row (fun k hk => .inl hk)
    case aB => exact j0_.out.base
    case aS => exact j0_.out.base.size
    case aL => have := HL.out; omega
    intro v1 w23 ho hb hg hat
    obtain ⟨A1, c1_, e1_⟩ := Kd.R_slice ho
    rw [show (gs ++ [(⟨a, c⟩ : S114)]).length = gs.length + 1 by simp] at e1_
    subst e1_
    have m0_ := Aside0.mk (blk_grown j0_.out.blk hg (Kd.R_ne j0_.out.row j0_.out.blk (by decide)))
    have m1_ := Aside0.mk (blk_grown j1_.out hg (fun e => by have h9 := HLT.out gb4 e.symm; have := HGW.out; omega))
    have m2_ := Aside0.mk ho
    have m3_ := Aside0.mk hb
    have m4_ : Aside0 (Kept w w23 (GW b (.slice Av gs.length cv))) := ⟨Kept.of_grown hg (Kept.of_below j2_.out _) (fun k hk => .inl (.inr hk))⟩
    have m5_ : Aside0 ((Value.slice A1 (gs.length + 1) c1_).ownBlock = (Value.slice Av gs.length cv).ownBlock ∨ ∃ k, (Value.slice A1 (gs.length + 1) c1_).ownBlock = some k ∧ w.heap.size ≤ k) := ⟨hat.imp id (fun ⟨k, h1, h2⟩ => ⟨k, h1, Nat.le_trans j2_.out.size h2⟩)⟩
    clear j0_ j1_ j2_ ho hb hg hat
    refine hK.out _ _ ⟨(blk_cell m0_.out 1).trans rfl, (blk_cell m1_.out 0).trans rfl, (blk_cell m1_.out 1).trans rfl⟩ (fun hHeld => ?_)
    clear hK K
    refine norm_ (a' := ?_) ?_ ?_
    rotate_left
    ·show Act.put _ (some 74) _ = _
     simp only [Act.put, List.setIfInBounds_toArray, List.set_cons_zero, List.set_cons_succ, i64_w, i32_w]
     rfl
    refine pure_ (i := 9) (N := some 75) (v := ?_) (a' := ?_) #[true, true, true, true, true, true, true, true, true, true, false, false, false] rfl rfl (any_of HT_.out (by kernel_rfl)) (fun _ _ _ h => h) (Or.inl ⟨by rfl, ?_⟩) ?_ ?_
    rotate_left
    ·intro w'
     go_simp
     with_reducible rfl
    rotate_left
    ·simp only [Act.put, List.setIfInBounds_toArray, List.set_cons_zero, List.set_cons_succ, i64_w, i32_w]
     rfl
    refine pure_ (i := 10) (N := some 76) (v := ?_) (a' := ?_) #[true, true, true, true, true, true, true, true, true, true, true, false, false] rfl rfl (any_of HT_.out (by kernel_rfl)) (fun _ _ _ h => h) (Or.inl ⟨by rfl, ?_⟩) ?_ ?_
    rotate_left
    ·intro w'
     go_simp
     with_reducible rfl
    rotate_left
    ·simp only [Act.put, List.setIfInBounds_toArray, List.set_cons_zero, List.set_cons_succ, i64_w, i32_w]
     rfl
    refine pure_ (i := 11) (N := some 77) (v := ?_) (a' := ?_) #[true, true, true, true, true, true, true, true, true, true, true, true, false] rfl rfl (any_of HT_.out (by kernel_rfl)) (fun _ _ _ h => h) (Or.inl ⟨by rfl, ?_⟩) ?_ ?_
    rotate_left
    ·intro w'
     go_simp
     with_reducible rfl
    rotate_left
    ·simp only [Act.put, List.setIfInBounds_toArray, List.set_cons_zero, List.set_cons_succ, i64_w, i32_w]
     rfl
    refine last_ (i := 12) (N := none) #[true, true, true, true, true, true, true, true, true, true, true, true, true] rfl rfl (one_of HT_.out (by kernel_rfl)) (by decide) (fun K hK => ?_)
    have hs1 : w23.cell? ⟨b, 1, none⟩ = some (.slice Av gs.length cv) := (blk_cell m0_.out 1).trans rfl
    have hfs1 := blk_frozen m0_.out 1
    refine skip_ (w1 := ?_) (by rfl) rfl ?_ ?_
    rotate_left
    ·go_simp
     rfl
    refine hK.out _ _ ?_
    clear hK K
    refine done_ (done_of HT_.out (by kernel_rfl)) ?_
    clear hs1 hfs1
    have k0_ := Aside0.mk (show (w23.setCell ⟨b, 1, none⟩ (.slice A1 (gs.length + 1) c1_)).heap[b]? = some (.cells #[.int .i64 n, .slice A1 (gs.length + 1) c1_] 128 (0, 0)) from heap_set m0_.out)
    have k1_ := Aside0.mk (Kd.R_set m2_.out m0_.out (by decide) 1 (.slice A1 (gs.length + 1) c1_))
    have k2_ := Aside0.mk (m3_.out.setCell (p := ⟨b, 1, none⟩) HM.out.old (.slice A1 (gs.length + 1) c1_))
    have k3_ := Aside0.mk (m4_.out.setCell (p := ⟨b, 1, none⟩) (.inl (.inl rfl)) (.slice A1 (gs.length + 1) c1_))
    clear m0_ m1_ m2_ m3_ m4_
    generalize w23.setCell ⟨b, 1, none⟩ (.slice A1 (gs.length + 1) c1_) = w24 at k0_ k1_ k2_ k3_ ⊢
    go_upto_region 18 with fail
    refine start_ (n := 14) (S := fun w' => w'.cell? ⟨b, 0, none⟩ = some (.int .i64 n) ∧ w'.cell? ⟨b, 1, none⟩ = some (.slice A1 (gs.length + 1) c1_)) (ds := []) #[false, false, false, false, false, false, false, false, false, false, false, false, false, false] (by kernel_rfl) rfl rfl ⟨(blk_cell k0_.out 0).trans rfl, (blk_cell k0_.out 1).trans rfl⟩ (fun hHeld => ?_)
    refine with_tabW sa18_tab sa18_bits (fun HT_ HW_ => ?_)
    refine pure_ (i := 0) (N := some 78) (v := ?_) (a' := ?_) #[true, false, false, false, false, false, false, false, false, false, false, false, false, false] rfl rfl (any_of HT_.out (by kernel_rfl)) (fun _ _ _ h => h) (Or.inl ⟨by rfl, ?_⟩) ?_ ?_
    rotate_left
    ·intro w'
     go_simp
     with_reducible rfl
    rotate_left
    ·simp only [Act.put, List.setIfInBounds_toArray, List.set_cons_zero, List.set_cons_succ, i64_w, i32_w]
     rfl
    refine pure_ (i := 1) (N := some 79) (v := ?_) (a' := ?_) #[true, true, false, false, false, false, false, false, false, false, false, false, false, false] rfl rfl (any_of HT_.out (by kernel_rfl)) (fun _ _ _ h => h) (Or.inl ⟨by rfl, ?_⟩) ?_ ?_
    rotate_left
    ·intro w'
     go_simp
     with_reducible rfl
    rotate_left
    ·simp only [Act.put, List.setIfInBounds_toArray, List.set_cons_zero, List.set_cons_succ, i64_w, i32_w]
     rfl
    refine pure_ (i := 2) (N := some 80) (v := ?_) (a' := ?_) #[true, true, true, false, false, false, false, false, false, false, false, false, false, false] rfl rfl (any_of HT_.out (by kernel_rfl)) (fun _ _ _ h => h) (Or.inl ⟨by rfl, ?_⟩) ?_ ?_
    rotate_left
    ·intro w'
     go_simp
     with_reducible rfl
    rotate_left
    ·simp only [Act.put, List.setIfInBounds_toArray, List.set_cons_zero, List.set_cons_succ, i64_w, i32_w]
     rfl
    refine pure_ (i := 3) (N := some 81) (v := ?_) (a' := ?_) #[true, true, true, true, false, false, false, false, false, false, false, false, false, false] rfl rfl (any_of HT_.out (by kernel_rfl)) (fun _ _ _ h => h) (Or.inl ⟨by rfl, ?_⟩) ?_ ?_
    rotate_left
    ·intro w'
     go_simp
     with_reducible rfl
    rotate_left
    ·simp only [Act.put, List.setIfInBounds_toArray, List.set_cons_zero, List.set_cons_succ, i64_w, i32_w]
     rfl
    refine take_ (i := 4) (N := some 82) (v := ?_) (a' := ?_) #[true, true, true, true, true, false, false, false, false, false, false, false, false, false] rfl rfl (take_ofW HT_.out HW_.out (by kernel_rfl)) (fun _ _ _ h => h) (Or.inl ⟨by rfl, ?_⟩) hHeld ?_ ?_
    rotate_left
    ·rintro w' ⟨s0, s1⟩
     go_simp
     with_reducible rfl
    rotate_left
    ·simp only [Act.put, List.setIfInBounds_toArray, List.set_cons_zero, List.set_cons_succ, i64_w, i32_w]
     rfl
    refine pure_ (i := 5) (N := some 83) (v := ?_) (a' := ?_) #[true, true, true, true, true, true, false, false, false, false, false, false, false, false] rfl rfl (any_of HT_.out (by kernel_rfl)) (fun _ _ _ h => h) (Or.inl ⟨by rfl, ?_⟩) ?_ ?_
    rotate_left
    ·intro w'
     go_simp
     with_reducible rfl
    rotate_left
    ·simp only [Act.put, List.setIfInBounds_toArray, List.set_cons_zero, List.set_cons_succ, i64_w, i32_w]
     rfl
    refine pure_ (i := 6) (N := some 84) (v := ?_) (a' := ?_) #[true, true, true, true, true, true, true, false, false, false, false, false, false, false] rfl rfl (any_of HT_.out (by kernel_rfl)) (fun _ _ _ h => h) (Or.inl ⟨by rfl, ?_⟩) ?_ ?_
    rotate_left
    ·intro w'
     go_simp
     with_reducible rfl
    rotate_left
    ·simp only [Act.put, List.setIfInBounds_toArray, List.set_cons_zero, List.set_cons_succ, i64_w, i32_w]
     rfl
    refine pure_ (i := 7) (N := some 85) (v := ?_) (a' := ?_) #[true, true, true, true, true, true, true, true, false, false, false, false, false, false] rfl rfl (any_of HT_.out (by kernel_rfl)) (fun _ _ _ h => h) (Or.inl ⟨by rfl, ?_⟩) ?_ ?_
    rotate_left
    ·intro w'
     go_simp
     with_reducible rfl
    rotate_left
    ·simp only [Act.put, List.setIfInBounds_toArray, List.set_cons_zero, List.set_cons_succ, i64_w, i32_w]
     rfl
    refine pure_ (i := 8) (N := some 86) (v := ?_) (a' := ?_) #[true, true, true, true, true, true, true, true, true, false, false, false, false, false] rfl rfl (any_of HT_.out (by kernel_rfl)) (fun _ _ _ h => h) (Or.inl ⟨by rfl, ?_⟩) ?_ ?_
    rotate_left
    ·intro w'
     go_simp
     with_reducible rfl
    rotate_left
    ·simp only [Act.put, List.setIfInBounds_toArray, List.set_cons_zero, List.set_cons_succ, i64_w, i32_w]
     rfl
    refine take_ (i := 9) (N := some 87) (v := ?_) (a' := ?_) #[true, true, true, true, true, true, true, true, true, true, false, false, false, false] rfl rfl (take_ofW HT_.out HW_.out (by kernel_rfl)) (fun _ _ _ h => h) (Or.inl ⟨by rfl, ?_⟩) hHeld ?_ ?_
    rotate_left
    ·rintro w' ⟨s0, s1⟩
     go_simp
     with_reducible rfl
    rotate_left
    ·simp only [Act.put, List.setIfInBounds_toArray, List.set_cons_zero, List.set_cons_succ, i64_w, i32_w]
     rfl
    refine pure_ (i := 10) (N := some 88) (v := ?_) (a' := ?_) #[true, true, true, true, true, true, true, true, true, true, true, false, false, false] rfl rfl (any_of HT_.out (by kernel_rfl)) (fun _ _ _ h => h) (Or.inl ⟨by rfl, ?_⟩) ?_ ?_
    rotate_left
    ·intro w'
     go_simp
     with_reducible rfl
    rotate_left
    ·simp only [Act.put, List.setIfInBounds_toArray, List.set_cons_zero, List.set_cons_succ, i64_w, i32_w]
     rfl
    refine pure_ (i := 11) (N := some 89) (v := ?_) (a' := ?_) #[true, true, true, true, true, true, true, true, true, true, true, true, false, false] rfl rfl (any_of HT_.out (by kernel_rfl)) (fun _ _ _ h => h) (Or.inl ⟨by rfl, ?_⟩) ?_ ?_
    rotate_left
    ·intro w'
     go_simp
     with_reducible rfl
    rotate_left
    ·simp only [Act.put, List.setIfInBounds_toArray, List.set_cons_zero, List.set_cons_succ, i64_w, i32_w]
     rfl
    refine pure_ (i := 12) (N := some 90) (v := ?_) (a' := ?_) #[true, true, true, true, true, true, true, true, true, true, true, true, true, false] rfl rfl (any_of HT_.out (by kernel_rfl)) (fun _ _ _ h => h) (Or.inl ⟨by rfl, ?_⟩) ?_ ?_
    rotate_left
    ·intro w'
     go_simp
     with_reducible rfl
    rotate_left
    ·simp only [Act.put, List.setIfInBounds_toArray, List.set_cons_zero, List.set_cons_succ, i64_w, i32_w]
     rfl
    refine pure_ (i := 13) (N := some 6) (v := ?_) (a' := ?_) #[true, true, true, true, true, true, true, true, true, true, true, true, true, true] rfl rfl (any_of HT_.out (by kernel_rfl)) (fun _ _ _ h => h) (Or.inl ⟨by rfl, ?_⟩) ?_ ?_
    rotate_left
    ·intro w'
     go_simp
     with_reducible rfl
    rotate_left
    ·simp only [Act.put, List.setIfInBounds_toArray, List.set_cons_zero, List.set_cons_succ, i64_w, i32_w]
     rfl
    refine done_ (done_of HT_.out (by kernel_rfl)) ?_
    clear hHeld HT_ HW_
    go_wp2
    go_ret
    exact ⟨rfl, _, MKe.below ⟨⟨k2_.out, HM.out.old, k0_.out, k1_.out⟩, k3_.out, m5_.out⟩ (below_drew (Below.refl _ _))⟩
end Go.Proofs.Ytcmkkoggdcjceaa.PFnExactBuildAig
end
section
namespace Go.Proofs.Ytcmkkoggdcjceaa.PFnExactBuildAig
open Go.RowKit Go.Proofs.YtcmkkoggdcjceaaW.PrintWords Go.Proofs.YtcmkkoggdcjceaaW.PrintLast Go.Proofs.YtcmkkoggdcjceaaW.PrintMore
attribute [local go_sem] max2_int min2_int max_two min_two max_three min_three max_four min_four   -- for this text's walks alone
set_option linter.unusedVariables false
set_option linter.unusedSimpArgs false
def notS (y : Int) : Int := if Int.tmod y 2 = 1 then wrap64 (y - 1) else wrap64 (y + 1)
theorem not_any (y : Int) (w : World) : Calls Try.prog 132 #[.int .i64 y] w fun e w' => e = .returned (.int .i64 (notS y)) ∧ Drawn0 w w' :=
 spec_l04Not.calls y (notS y) w (by unfold spec_l04Not.f notS; split <;> rfl)
def orS (n x y : Int) (gs : List S114) : Option (Int × List S114) := (andS n (notS x) (notS y) gs).bind fun p => some (notS p.1, p.2)
theorem sor_any (n x y : Int) (w0 w : World) (b : Nat) (ok : Nat → Prop) (v : Value) (gs : List S114) (r : Int) (gs' : List S114) (hm : MK 128 w0 w b n ok v gs) (h : orS n x y gs = some (r, gs')) :
  Calls Try.prog 134 #[.pointer (some ⟨b, 0, none⟩), .int .i64 x, .int .i64 y] w fun e W' => e = .returned (.int .i64 r) ∧ ∃ v', MKe 128 w0 w W' b n ok v v' gs' := by
 unfold orS at h
 obtain ⟨⟨r1, g1⟩, h1, h2⟩ := Option.bind_eq_some_iff.1 h
 cases h2
 have hn1 := not_any x w
 have HM := Aside0.mk hm
 have H1 := Aside0.mk h1
 clear h h1 hm
 go_enter Try.func134, Try.ntmps134
 go_wp2_with (first
  | (go_at_call 132; refine hn1.mono ?_; rintro e w1 ⟨rfl, hd1⟩; clear hn1; have HD1 := Aside0.mk hd1.below; have hn2 := not_any y w1; clear hd1)
  | (go_at_call 132; refine hn2.mono ?_; rintro e w2 ⟨rfl, hd2⟩; clear hn2; have HD2 := Aside0.mk (HD1.out.trans (hd2.below.mono HD1.out.size)); clear hd2; have hcall := sand_any n (notS x) (notS y) w0 w2 b ok v gs r1 _ (HM.out.below HD2.out) H1.out)
  | (go_at_call 133; refine hcall.mono ?_; rintro e w3 ⟨rfl, v3, hm3⟩; clear hcall; have HV := Aside0.mk (hm3.down HD2.out); clear hm3; have hn3 := not_any r1 w3)
  | (go_at_call 132; refine hn3.mono ?_; rintro e w4 ⟨rfl, hd4⟩; clear hn3; have HV4 := Aside0.mk (HV.out.below hd4.below); clear hd4))
 go_ret
 exact ⟨rfl, _, HV4.out⟩
theorem row_at {W : World} {base : Nat} {ok : Nat → Prop} {q n c : Nat} {ks : List Int} (h : Kd.R (Kd.int .i64) 3 W base ok (.slice (some ⟨q, 0, none⟩) n c) ks) (j : Nat) (hj : j < n) : W.cell? ⟨q, j, none⟩ = some (.int .i64 (ks.getD j 0)) := by
 have h9 := (Kd.R_celln 0 h (j : Int) (by omega) (by omega)).1
 rw [Int.toNat_natCast] at h9
 exact h9
theorem MKe.grow {t : Nat} {w0 w W W2 : World} {b : Nat} {n : Int} {ok : Nat → Prop} {v v' u : Value} {gs : List S114} {base : Nat} {l : List Int} (h : MKe t w0 w W b n ok v v' gs) (hl : Kd.R (Kd.int .i64) 3 W base (fun k => w.heap.size ≤ k) u l) (hb : Below w0.heap.size w0 W2) (hg : W.grownBy W2 u.ownBlock) (ht : (3 : Nat) ≠ t) : MKe t w0 w W2 b n ok v v' gs :=
 ⟨⟨hb, h.now_.old, blk_grown h.now_.blk hg (Kd.R_ne hl h.now_.blk ht), Kd.R_grown2 h.now_.row rfl hg (fun k hk e => by
  obtain ⟨cs1, hcs1⟩ := Kd.R_typed hl k hk
  obtain ⟨cs2, hcs2⟩ := Kd.R_typed h.now_.row k e.symm
  rw [hcs1] at hcs2
  cases hcs2)⟩, Kept.of_grown hg h.kept (fun k hk => .inr (hl.1 k hk)), h.own⟩
def kidS (go : Int → Int → List S31 → List S114 → Option (Int × List S114)) : List S31 → List Int → List S114 → Option (List Int × List S114)
 | [], ks, gs => some (ks, gs)
 | x :: r, ks, gs => if ks.length ≤ 1000 then (go x.f0 x.f1 x.f2 gs).bind fun p => kidS go r (ks ++ [p.1]) p.2 else none
def endS (n kind : Int) (ks : List Int) (gs : List S114) : Option (Int × List S114) :=
 if kind = 3 then (if 1 ≤ ks.length then some (notS (ks.getD 0 0), gs) else none) else if kind = 4 then (if 2 ≤ ks.length then andS n (ks.getD 0 0) (ks.getD 1 0) gs else none) else if kind = 5 then (if 2 ≤ ks.length then orS n (ks.getD 0 0) (ks.getD 1 0) gs else none) else if kind = 6 then (if 2 ≤ ks.length then (andS n (ks.getD 0 0) (notS (ks.getD 1 0)) gs).bind fun p => (andS n (notS (ks.getD 0 0)) (ks.getD 1 0) p.2).bind fun q => orS n p.1 q.1 q.2 else none) else (if 3 ≤ ks.length then (andS n (ks.getD 0 0) (ks.getD 1 0) gs).bind fun p => (andS n (notS (ks.getD 0 0)) (ks.getD 2 0) p.2).bind fun q => orS n p.1 q.1 q.2 else none)
def mkS (n : Int) : Nat → Int → Int → List S31 → List S114 → Option (Int × List S114)
 | 0, _, _, _, _ => none
 | f + 1, kind, num, kids, gs => if kind = 1 then some (wrap64 (2 * wrap64 (num + 1)), gs) else if kind = 2 then some (num, gs) else (kidS (mkS n f) kids [] gs).bind fun p => endS n kind p.1 p.2
def mk15_T : Bool × List (List Nat × List Nat) := (true, [([], []), ([], []), ([1], [1]), ([2], [2]), ([], []), ([4], [4]), ([5], [5]), ([0, 3, 6], [0, 3, 6]), ([7, 7, 0, 1, 2, 3, 4, 5, 6, 7], [7])])
def mk15_B : List Nat := [0, 0, 2, 6, 0, 16, 48, 127, 255]
theorem mk15_tab : rtab .any (opsOf Try.f108 15) = mk15_T := by kernel_rfl
theorem mk15_bits : waitsOk mk15_T.2 mk15_B = true := by kernel_rfl
def mk17_T : Bool × List (List Nat × List Nat) := (true, [([], []), ([], []), ([1], [1]), ([2], [2]), ([], []), ([4], [4]), ([5], [5]), ([0, 3, 6], [0, 3, 6]), ([7, 7, 0, 1, 2, 3, 4, 5, 6, 7], [7])])
def mk17_B : List Nat := [0, 0, 2, 6, 0, 16, 48, 127, 255]
theorem mk17_tab : rtab .any (opsOf Try.f108 17) = mk17_T := by kernel_rfl
theorem mk17_bits : waitsOk mk17_T.2 mk17_B = true := by kernel_rfl
def mk19_T : Bool × List (List Nat × List Nat) := (true, [([], []), ([], []), ([1], [1]), ([2], [2]), ([], []), ([4], [4]), ([5], [5]), ([6], [6]), ([0, 3, 7, 7], [0, 3, 7]), ([8, 8, 0, 1, 2, 3, 4, 5, 6, 7, 8], [8])])
def mk19_B : List Nat := [0, 0, 2, 6, 0, 16, 48, 112, 255, 511]
theorem mk19_tab : rtab .any (opsOf Try.f108 19) = mk19_T := by kernel_rfl
theorem mk19_bits : waitsOk mk19_T.2 mk19_B = true := by kernel_rfl
def mk20_T : Bool × List (List Nat × List Nat) := (true, [([], []), ([], []), ([1], [1]), ([2], [2]), ([3], [3]), ([], []), ([5], [5]), ([6], [6]), ([0, 4, 7, 4], [0, 4, 7]), ([8, 8, 0, 1, 2, 3, 4, 5, 6, 7, 8], [8])])
def mk20_B : List Nat := [0, 0, 2, 6, 14, 0, 32, 96, 255, 511]
theorem mk20_tab : rtab .any (opsOf Try.f108 20) = mk20_T := by kernel_rfl
theorem mk20_bits : waitsOk mk20_T.2 mk20_B = true := by kernel_rfl
def mk22_T : Bool × List (List Nat × List Nat) := (true, [([], []), ([], []), ([1], [1]), ([2], [2]), ([], []), ([4], [4]), ([5], [5]), ([0, 3, 6], [0, 3, 6]), ([7, 7, 0, 1, 2, 3, 4, 5, 6, 7], [7])])
def mk22_B : List Nat := [0, 0, 2, 6, 0, 16, 48, 127, 255]
theorem mk22_tab : rtab .any (opsOf Try.f108 22) = mk22_T := by kernel_rfl
theorem mk22_bits : waitsOk mk22_T.2 mk22_B = true := by kernel_rfl
def mk23_T : Bool × List (List Nat × List Nat) := (true, [([], []), ([], []), ([1], [1]), ([2], [2]), ([3], [3]), ([], []), ([5], [5]), ([6], [6]), ([0, 4, 7, 4], [0, 4, 7]), ([8, 8, 0, 1, 2, 3, 4, 5, 6, 7, 8], [8])])
def mk23_B : List Nat := [0, 0, 2, 6, 14, 0, 32, 96, 255, 511]
theorem mk23_tab : rtab .any (opsOf Try.f108 23) = mk23_T := by kernel_rfl
theorem mk23_bits : waitsOk mk23_T.2 mk23_B = true := by kernel_rfl
set_option maxHeartbeats 16000000 in
set_option maxRecDepth 100000 in
theorem make_any (n : Int) (w0 : World) (b : Nat) : ∀ (f : Nat) (kind num : Int) (A : Option Addr) (c : Nat) (kids : List S31) (ok : Nat → Prop) (v : Value) (gs : List S114) (r : Int) (gs' : List S114) (w : World), Kd.C k31 w0 A kids.length kids → kids.length ≤ c → MK 128 w0 w b n ok v gs → mkS n f kind num kids gs = some (r, gs') →
  Calls Try.prog 108 #[.pointer (some ⟨b, 0, none⟩), .agg #[.int .i64 kind, .int .i64 num, .slice A kids.length c]] w fun e W' => e = .returned (.int .i64 r) ∧ ∃ v', MKe 128 w0 w W' b n ok v v' gs' := by
 intro f
 induction f with
 | zero => intro kind num A c kids ok v gs r gs' w _ _ _ h; simp [mkS] at h
 | succ f ih =>
  intro kind num A c kids ok v gs r gs' w hC hc hm h
  have hu31 := Try.underlying31
  have HC := Aside0.mk hC
  have HM := Aside0.mk hm
  have IH := Aside0.mk ih
  have hmaxk : kids.length ≤ 9223372036854775807 := Kd.C_max hC
  clear hC hm ih
  rw [mkS] at h
  obtain ⟨g, hg⟩ : ∃ g, w.heap.size = g := ⟨_, rfl⟩
  go_enter Try.func108, Try.ntmps108
  go_upto_region 1 with fail
  have hb2 : Below w.heap.size w (w.alloc (.cells #[.int .i64 kind, .int .i64 num, .slice A kids.length c] 31)) := below_alloc (Below.refl _ _) _
  have k1 : (w.alloc (.cells #[.int .i64 kind, .int .i64 num, .slice A kids.length c] 31)).heap[g]? = some (.cells #[.int .i64 kind, .int .i64 num, .slice A kids.length c] 31 (0, 0)) := by rw [← hg]; exact blk_new w _
  generalize w.alloc (.cells #[.int .i64 kind, .int .i64 num, .slice A kids.length c] 31) = w2 at hb2 k1 ⊢
  have y0 := (blk_cell k1 0).trans (show _ = some (.int .i64 kind) from rfl)
  have y1 := (blk_cell k1 1).trans (show _ = some (.int .i64 num) from rfl)
  have HG := Aside0.mk hg
  have HE := Aside0.mk k1
  have HB2 := Aside0.mk hb2
  have HME := Aside0.mk (HM.out.done hb2)
  clear hg hb2 k1
  by_cases h1 : kind = 1
  ·rw [if_pos h1] at h
   have t1 : (kind == 1) = true := beq_iff_eq.mpr h1
   clear h1
   cases h
   go_wp2
   go_ret
   exact ⟨rfl, _, HME.out⟩
  rw [if_neg h1] at h
  have t1 : (kind == 1) = false := beq_eq_false_iff_ne.mpr h1
  clear h1
  by_cases h2 : kind = 2
  ·rw [if_pos h2] at h
   have t2 : (kind == 2) = true := beq_iff_eq.mpr h2
   clear h2
   cases h
   go_wp2
   go_ret
   exact ⟨rfl, _, HME.out⟩
  rw [if_neg h2] at h
  have t2 : (kind == 2) = false := beq_eq_false_iff_ne.mpr h2
  clear h2
  obtain ⟨⟨kq, gq⟩, hkid, hend⟩ := Option.bind_eq_some_iff.1 h
  simp only at hend
  have HKD := Aside0.mk hkid
  have HEND := Aside0.mk hend
  clear h hkid hend
  go_upto_region 7 with ((with_reducible refine gate_dst (N := 23) rfl ?_); refine Kd.R_lit (Kd.int .i64) (w0 := w0) w0.heap.size 3 ?hg (N := 23) ?hd (xs := ([] : List Int)) (inner := []) (ok := fun k => w.heap.size ≤ k) (okp := fun _ => False) ?hr ?hp (fun _ hk => hk.elim) HB2.out.size HME.out.now_.base HME.out.now_.base.size (by simp) ?_; (case hd => rfl); (case hg => rfl); (case hr => first | (go_simp; done) | (go_simp; rfl)); (case hp => exact Reps.none _ _); intro v87 w87 ho hb hg_ hnew_; have HL := Aside0.mk ho; clear y0 y1; have HE3 := Aside0.mk (blk_grown HE.out hg_ (by simp)); have HME3 := Aside0.mk (show MKe 128 w0 w w87 b n ok v v gs from ⟨⟨hb, HM.out.old, blk_grown HME.out.now_.blk hg_ (by simp), Kd.R_grown2 HME.out.now_.row rfl hg_ (fun k hk => by cases hk)⟩, Kept.of_grown hg_ HME.out.kept (fun k hk => by cases hk), HME.out.own⟩); clear ho hb hg_ hnew_ HE HME HB2)
  go_wp2
  go_loopg [5, 6] kids.length (fun gg v5 v6 wr => ∃ (i : Nat) (ks : List Int) (vi : Value) (gi : List S114), v6 = .int .i64 i ∧ i ≤ kids.length ∧ kids.length - i ≤ gg ∧ Aside0 (kidS (mkS n f) (kids.drop i) ks gi = some (kq, gq)) ∧ Aside0 (MKe 128 w0 w wr b n ok v vi gi) ∧ Aside0 (Kd.R (Kd.int .i64) 3 wr w0.heap.size (fun k => w.heap.size ≤ k) v5 ks) ∧ Aside0 (wr.heap[g]? = some (.cells #[.int .i64 kind, .int .i64 num, .slice A kids.length c] 31 (0, 0))))
  case atStart => exact ⟨0, [], v, gs, rfl, Nat.zero_le _, by omega, HKD, HME3, HL, HE3⟩
  case round =>
   clear HKD HME3 HL HE3
   obtain ⟨i, ks, vi, gi, rfl, hi, hgk, HKD, HME, HL, HE⟩ := hrel
   have y2 := (blk_cell HE.out 2).trans (show _ = some (.slice A kids.length c) from rfl)
   by_cases hlt : i < kids.length
   ·have hltz : (i : Int) < (kids.length : Int) := by omega
    have h0z : (0 : Int) ≤ (i : Int) := by omega
    obtain ⟨ad, A2, c2, ea, hx0, hx1, hx2, hlc2, hC2⟩ := at_T31 HC.out (i : Int) h0z hltz
    subst ea
    have hrd : rd_T31 kids (i : Int) = kids[i] := by unfold rd_T31; simp [List.getD, hlt]
    rw [Int.toNat_natCast, hrd] at hx0 hx1 hx2
    rw [hrd] at hlc2 hC2
    replace hx0 := (HME.out.now_.base.cell (World.block_lt_of_cell? w0 _ hx0)).trans hx0
    replace hx1 := (HME.out.now_.base.cell (World.block_lt_of_cell? w0 _ hx1)).trans hx1
    replace hx2 := (HME.out.now_.base.cell (World.block_lt_of_cell? w0 _ hx2)).trans hx2
    have hkd := HKD.out
    rw [List.drop_eq_getElem_cons hlt, kidS] at hkd
    have hll : ks.length ≤ 1000 := by
     by_cases h9 : ks.length ≤ 1000
     ·exact h9
     ·rw [if_neg h9] at hkd; cases hkd
    rw [if_pos hll] at hkd
    obtain ⟨⟨p1, p2⟩, hgo, hkd2⟩ := Option.bind_eq_some_iff.1 hkd
    simp only at hkd2
    have HGO := Aside0.mk hgo
    have HKD2 := Aside0.mk hkd2
    have HLL := Aside0.mk hll
    have HC2 := Aside0.mk (And.intro hC2 hlc2)
    clear hkd hgo hkd2 hC2 hlc2 hrd HKD hll
    generalize kids[i] = x at hx0 hx1 hx2 HGO HC2
    have ew : IntKind.i64.wrap ((i : Int) + 1) = ((i + 1 : Nat) : Int) := IntWalk.i64_in _ (by omega)
    have hgo := IH.out x.f0 x.f1 A2 c2 x.f2 (RK ok w) vi gi p1 p2 wr HC2.out.1 HC2.out.2 HME.out.now_ HGO.out
    go_wp2_with (first
     | (go_at_call 108; refine hgo.mono ?_; rintro e w6 ⟨rfl, v6, hm6⟩; clear hgo; have HM6 := Aside0.mk (HME.out.trans hm6); have HE6 := Aside0.mk (hm6.other HME.out.now_ HE.out (by decide) (by decide)); have HL6 := Aside0.mk (hm6.ints HME.out.now_ (by decide) HL.out); clear hm6 hx0 hx1 hx2 y2 HME HE HL)
     | ((with_reducible refine gate_builtin (b := .append) (xs := #[.tmp 31, .tmp 39]) rfl ?_); at_builtin; refine Kd.R_append (Kd.int .i64) (w0 := w0) w0.heap.size rfl (.tmp 31) (.tmp 39) 40 3 (.int .i64 0) 8 rfl Try.underlying40 inf3 rfl (by decide) (by omega) u5 ks p1 [.int .i64 p1] (fun k => w.heap.size ≤ k) (fun _ => False) rfl rfl ?aP (fun _ hk => hk.elim) ?aF ?aO ?aB ?aS ?aL ?_; (case aP => exact rfl); (case aF => exact fun k hk => Nat.le_trans HM6.out.kept.1 hk); (case aO => exact HL6.out); (case aB => exact HM6.out.now_.base); (case aS => exact HM6.out.now_.base.size); (case aL => have := HLL.out; omega); intro v1 w7 ho hb hg2 hat; have HL7 := Aside0.mk ho; have HM7 := Aside0.mk (HM6.out.grow HL6.out hb hg2 (by decide)); have HE7 := Aside0.mk (blk_grown HE6.out hg2 (Kd.R_ne HL6.out HE6.out (by decide))); clear ho hb hg2 hat HL6 HM6 HE6))
    go_roundg (gk - 1)
    case measure => omega
    case rel => exact ⟨i + 1, ks ++ [p1], v6, p2, rfl, by omega, by omega, HKD2, HM7, HL7, HE7⟩
   ·obtain rfl : i = kids.length := by omega
    have hkd := HKD.out
    rw [List.drop_length, kidS] at hkd
    cases hkd
    have hend := HEND.out
    unfold endS at hend
    have y0 := (blk_cell HE.out 0).trans (show _ = some (.int .i64 kind) from rfl)
    obtain ⟨wcur, hwc⟩ : ∃ x, x = wr := ⟨_, rfl⟩
    subst hwc
    clear HEND HKD hlt
    by_cases h3 : kind = 3
    ·rw [if_pos h3] at hend
     have t3 : (kind == 3) = true := beq_iff_eq.mpr h3
     clear h3
     by_cases hl : 1 ≤ kq.length
     rotate_left
     ·rw [if_neg hl] at hend; cases hend
     rw [if_pos hl] at hend
     obtain ⟨q, cq, eq_, -, -, -⟩ := Kd.R_form HL.out (by omega)
     subst eq_
     have HLEN0 := Aside0.mk (show 0 < kq.length by omega)
     obtain ⟨k0, hk0⟩ : ∃ k, kq.getD 0 0 = k := ⟨_, rfl⟩
     have HK0 := Aside0.mk hk0
     rw [hk0] at hend
     clear hk0
     clear hl
     have hc0 : wcur.cell? ⟨q, 0, none⟩ = some (.int .i64 k0) := (row_at HL.out 0 HLEN0.out).trans (by rw [HK0.out])
     have hn := not_any k0 wcur
     have hz0 : (0 : Int) < (kq.length : Int) := by have := HLEN0.out; omega
     have hn0 : 0 < kq.length := HLEN0.out
     cases hend
     go_wp2_with (go_at_call 132; refine hn.mono ?_; rintro e w8 ⟨rfl, hd⟩; have HM8 := Aside0.mk (HME.out.below hd.below); clear hn hd hc0 y0 y2)
     go_ret
     exact ⟨rfl, _, HM8.out⟩
    rw [if_neg h3] at hend
    have t3 : (kind == 3) = false := beq_eq_false_iff_ne.mpr h3
    clear h3
    by_cases h4 : kind = 4
    ·rw [if_pos h4] at hend
     have t4 : (kind == 4) = true := beq_iff_eq.mpr h4
     clear h4
     by_cases hl : 2 ≤ kq.length
     rotate_left
     ·rw [if_neg hl] at hend; cases hend
     rw [if_pos hl] at hend
     obtain ⟨q, cq, eq_, -, -, -⟩ := Kd.R_form HL.out (by omega)
     subst eq_
     have HLEN0 := Aside0.mk (show 0 < kq.length by omega)
     obtain ⟨k0, hk0⟩ : ∃ k, kq.getD 0 0 = k := ⟨_, rfl⟩
     have HK0 := Aside0.mk hk0
     have HLEN1 := Aside0.mk (show 1 < kq.length by omega)
     obtain ⟨k1, hk1⟩ : ∃ k, kq.getD 1 0 = k := ⟨_, rfl⟩
     have HK1 := Aside0.mk hk1
     rw [hk0, hk1] at hend
     clear hk0 hk1
     clear hl
     have hn0 : 0 < kq.length := HLEN0.out
     have hn1 : 1 < kq.length := HLEN1.out
     have hz0 : (0 : Int) < (kq.length : Int) := by have := HLEN0.out; omega
     have hz1 : (1 : Int) < (kq.length : Int) := by have := HLEN1.out; omega
     go_upto_region 15 with fail
     clear y0 y2
     have hc0 : wcur.cell? ⟨q, 0, none⟩ = some (.int .i64 k0) := (row_at HL.out 0 HLEN0.out).trans (by rw [HK0.out])
     have hc1 : wcur.cell? ⟨q, 1, none⟩ = some (.int .i64 k1) := (row_at HL.out 1 HLEN1.out).trans (by rw [HK1.out])
     refine start_ (n := 9) (S := fun w' => w'.cell? ⟨q, 0, none⟩ = some (.int .i64 k0) ∧ w'.cell? ⟨q, 1, none⟩ = some (.int .i64 k1)) (ds := []) #[false, false, false, false, false, false, false, false, false] (by kernel_rfl) rfl rfl ⟨hc0, hc1⟩ (fun hHeld => ?_)
     refine with_tabW mk15_tab mk15_bits (fun HT_ HW_ => ?_)
     have HMd := Aside0.mk (HME.out.below (below_drew (Below.refl _ _)))
     have HLd := Aside0.mk (Kd.R_drew HL.out)
     have HEd := Aside0.mk (blk_drew HE.out)
     clear HME HL HE hc0 hc1
     generalize wcur.drew = wd at HMd HLd HEd hHeld ⊢
     refine pure_ (i := 0) (N := some 51) (v := ?_) (a' := ?_) #[true, false, false, false, false, false, false, false, false] rfl rfl (any_of HT_.out (by kernel_rfl)) (fun _ _ _ h => h) (Or.inl ⟨by rfl, ?_⟩) ?_ ?_
     rotate_left
     ·intro w'
      go_simp
      with_reducible rfl
     rotate_left
     ·simp only [Act.put, List.setIfInBounds_toArray, List.set_cons_zero, List.set_cons_succ, i64_w, i32_w]
      rfl
     refine pure_ (i := 1) (N := some 52) (v := ?_) (a' := ?_) #[true, true, false, false, false, false, false, false, false] rfl rfl (any_of HT_.out (by kernel_rfl)) (fun _ _ _ h => h) (Or.inl ⟨by rfl, ?_⟩) ?_ ?_
     rotate_left
     ·intro w'
      go_simp
      with_reducible rfl
     rotate_left
     ·simp only [Act.put, List.setIfInBounds_toArray, List.set_cons_zero, List.set_cons_succ, i64_w, i32_w]
      rfl
     refine pure_ (i := 2) (N := some 53) (v := ?_) (a' := ?_) #[true, true, true, false, false, false, false, false, false] rfl rfl (any_of HT_.out (by kernel_rfl)) (fun _ _ _ h => h) (Or.inl ⟨by rfl, ?_⟩) ?_ ?_
     rotate_left
     ·intro w'
      go_simp
      with_reducible rfl
     rotate_left
     ·simp only [Act.put, List.setIfInBounds_toArray, List.set_cons_zero, List.set_cons_succ, i64_w, i32_w]
      rfl
     refine take_ (i := 3) (N := some 54) (v := ?_) (a' := ?_) #[true, true, true, true, false, false, false, false, false] rfl rfl (take_ofW HT_.out HW_.out (by kernel_rfl)) (fun _ _ _ h => h) (Or.inl ⟨by rfl, ?_⟩) hHeld ?_ ?_
     rotate_left
     ·rintro w' ⟨s0, s1⟩
      go_simp
      with_reducible rfl
     rotate_left
     ·simp only [Act.put, List.setIfInBounds_toArray, List.set_cons_zero, List.set_cons_succ, i64_w, i32_w]
      rfl
     refine pure_ (i := 4) (N := some 55) (v := ?_) (a' := ?_) #[true, true, true, true, true, false, false, false, false] rfl rfl (any_of HT_.out (by kernel_rfl)) (fun _ _ _ h => h) (Or.inl ⟨by rfl, ?_⟩) ?_ ?_
     rotate_left
     ·intro w'
      go_simp
      with_reducible rfl
     rotate_left
     ·simp only [Act.put, List.setIfInBounds_toArray, List.set_cons_zero, List.set_cons_succ, i64_w, i32_w]
      rfl
     refine pure_ (i := 5) (N := some 56) (v := ?_) (a' := ?_) #[true, true, true, true, true, true, false, false, false] rfl rfl (any_of HT_.out (by kernel_rfl)) (fun _ _ _ h => h) (Or.inl ⟨by rfl, ?_⟩) ?_ ?_
     rotate_left
     ·intro w'
      go_simp
      with_reducible rfl
     rotate_left
     ·simp only [Act.put, List.setIfInBounds_toArray, List.set_cons_zero, List.set_cons_succ, i64_w, i32_w]
      rfl
     refine take_ (i := 6) (N := some 57) (v := ?_) (a' := ?_) #[true, true, true, true, true, true, true, false, false] rfl rfl (take_ofW HT_.out HW_.out (by kernel_rfl)) (fun _ _ _ h => h) (Or.inl ⟨by rfl, ?_⟩) hHeld ?_ ?_
     rotate_left
     ·rintro w' ⟨s0, s1⟩
      go_simp
      with_reducible rfl
     rotate_left
     ·simp only [Act.put, List.setIfInBounds_toArray, List.set_cons_zero, List.set_cons_succ, i64_w, i32_w]
      rfl
     refine one_ (i := 7) (N := some 58) #[true, true, true, true, true, true, true, true, false] rfl rfl (one_of HT_.out (by kernel_rfl)) (by decide) (fun K hK => ?_)
     refine call_ 133 #[.pointer (some ⟨b, 0, none⟩), .int .i64 k0, .int .i64 k1] (by rfl) rfl ?hrun15_7 ?hq15_7
     case hrun15_7 =>
      have he := enters_of Try.func133 (by kernel_rfl) rfl
      unfold execOp
      simp [resolve, Deferred.ofValue, invoke, Act.eval, he]
     refine (sand_any n k0 k1 w0 wd b (RK ok w) _ _ r gs' HMd.out.now_ hend).mono ?_
     rintro e we ⟨rfl, v9, hm9⟩
     have n0_ := Aside0.mk (HMd.out.trans hm9)
     have n1_ := Aside0.mk (hm9.ints HMd.out.now_ (by decide) HLd.out)
     have n2_ := Aside0.mk (hm9.other HMd.out.now_ HEd.out (by decide) (by decide))
     clear HMd HLd HEd hm9
     refine ⟨_, rfl, ?_⟩
     refine hK.out _ _ (by have n1c0 := (row_at n1_.out 0 (HLEN0.out)).trans (by rw [HK0.out]); have n1c1 := (row_at n1_.out 1 (HLEN1.out)).trans (by rw [HK1.out]); exact ⟨n1c0, n1c1⟩) (fun hHeld => ?_)
     clear hK K
     refine norm_ (a' := ?_) ?_ ?_
     rotate_left
     ·show Act.put _ (some 58) _ = _
      simp only [Act.put, List.setIfInBounds_toArray, List.set_cons_zero, List.set_cons_succ, i64_w, i32_w]
      rfl
     refine pure_ (i := 8) (N := some 4) (v := ?_) (a' := ?_) #[true, true, true, true, true, true, true, true, true] rfl rfl (any_of HT_.out (by kernel_rfl)) (fun _ _ _ h => h) (Or.inl ⟨by rfl, ?_⟩) ?_ ?_
     rotate_left
     ·intro w'
      go_simp
      with_reducible rfl
     rotate_left
     ·simp only [Act.put, List.setIfInBounds_toArray, List.set_cons_zero, List.set_cons_succ, i64_w, i32_w]
      rfl
     refine done_ (done_of HT_.out (by kernel_rfl)) ?_
     clear hHeld HT_ HW_
     have HME := n0_
     have HL := n1_
     have HE := n2_
     clear n0_ n1_ n2_
     go_wp2
     go_ret
     exact ⟨rfl, _, HME.out⟩
    rw [if_neg h4] at hend
    have t4 : (kind == 4) = false := beq_eq_false_iff_ne.mpr h4
    clear h4
    by_cases h5 : kind = 5
    ·rw [if_pos h5] at hend
     have t5 : (kind == 5) = true := beq_iff_eq.mpr h5
     clear h5
     by_cases hl : 2 ≤ kq.length
     rotate_left
     ·rw [if_neg hl] at hend; cases hend
     rw [if_pos hl] at hend
     obtain ⟨q, cq, eq_, -, -, -⟩ := Kd.R_form HL.out (by omega)
     subst eq_
     have HLEN0 := Aside0.mk (show 0 < kq.length by omega)
     obtain ⟨k0, hk0⟩ : ∃ k, kq.getD 0 0 = k := ⟨_, rfl⟩
     have HK0 := Aside0.mk hk0
     have HLEN1 := Aside0.mk (show 1 < kq.length by omega)
     obtain ⟨k1, hk1⟩ : ∃ k, kq.getD 1 0 = k := ⟨_, rfl⟩
     have HK1 := Aside0.mk hk1
     rw [hk0, hk1] at hend
     clear hk0 hk1
     clear hl
     have hn0 : 0 < kq.length := HLEN0.out
     have hn1 : 1 < kq.length := HLEN1.out
     have hz0 : (0 : Int) < (kq.length : Int) := by have := HLEN0.out; omega
     have hz1 : (1 : Int) < (kq.length : Int) := by have := HLEN1.out; omega
     go_upto_region 17 with fail
     clear y0 y2
     have hc0 : wcur.cell? ⟨q, 0, none⟩ = some (.int .i64 k0) := (row_at HL.out 0 HLEN0.out).trans (by rw [HK0.out])
     have hc1 : wcur.cell? ⟨q, 1, none⟩ = some (.int .i64 k1) := (row_at HL.out 1 HLEN1.out).trans (by rw [HK1.out])
     refine start_ (n := 9) (S := fun w' => w'.cell? ⟨q, 0, none⟩ = some (.int .i64 k0) ∧ w'.cell? ⟨q, 1, none⟩ = some (.int .i64 k1)) (ds := []) #[false, false, false, false, false, false, false, false, false] (by kernel_rfl) rfl rfl ⟨hc0, hc1⟩ (fun hHeld => ?_)
     refine with_tabW mk17_tab mk17_bits (fun HT_ HW_ => ?_)
     have HMd := Aside0.mk (HME.out.below (below_drew (Below.refl _ _)))
     have HLd := Aside0.mk (Kd.R_drew HL.out)
     have HEd := Aside0.mk (blk_drew HE.out)
     clear HME HL HE hc0 hc1
     generalize wcur.drew = wd at HMd HLd HEd hHeld ⊢
     refine pure_ (i := 0) (N := some 61) (v := ?_) (a' := ?_) #[true, false, false, false, false, false, false, false, false] rfl rfl (any_of HT_.out (by kernel_rfl)) (fun _ _ _ h => h) (Or.inl ⟨by rfl, ?_⟩) ?_ ?_
     rotate_left
     ·intro w'
      go_simp
      with_reducible rfl
     rotate_left
     ·simp only [Act.put, List.setIfInBounds_toArray, List.set_cons_zero, List.set_cons_succ, i64_w, i32_w]
      rfl
     refine pure_ (i := 1) (N := some 62) (v := ?_) (a' := ?_) #[true, true, false, false, false, false, false, false, false] rfl rfl (any_of HT_.out (by kernel_rfl)) (fun _ _ _ h => h) (Or.inl ⟨by rfl, ?_⟩) ?_ ?_
     rotate_left
     ·intro w'
      go_simp
      with_reducible rfl
     rotate_left
     ·simp only [Act.put, List.setIfInBounds_toArray, List.set_cons_zero, List.set_cons_succ, i64_w, i32_w]
      rfl
     refine pure_ (i := 2) (N := some 63) (v := ?_) (a' := ?_) #[true, true, true, false, false, false, false, false, false] rfl rfl (any_of HT_.out (by kernel_rfl)) (fun _ _ _ h => h) (Or.inl ⟨by rfl, ?_⟩) ?_ ?_
     rotate_left
     ·intro w'
      go_simp
      with_reducible rfl
     rotate_left
     ·simp only [Act.put, List.setIfInBounds_toArray, List.set_cons_zero, List.set_cons_succ, i64_w, i32_w]
      rfl
     refine take_ (i := 3) (N := some 64) (v := ?_) (a' := ?_) #[true, true, true, true, false, false, false, false, false] rfl rfl (take_ofW HT_.out HW_.out (by kernel_rfl)) (fun _ _ _ h => h) (Or.inl ⟨by rfl, ?_⟩) hHeld ?_ ?_
     rotate_left
     ·rintro w' ⟨s0, s1⟩
      go_simp
      with_reducible rfl
     rotate_left
     ·simp only [Act.put, List.setIfInBounds_toArray, List.set_cons_zero, List.set_cons_succ, i64_w, i32_w]
      rfl
     refine pure_ (i := 4) (N := some 65) (v := ?_) (a' := ?_) #[true, true, true, true, true, false, false, false, false] rfl rfl (any_of HT_.out (by kernel_rfl)) (fun _ _ _ h => h) (Or.inl ⟨by rfl, ?_⟩) ?_ ?_
     rotate_left
     ·intro w'
      go_simp
      with_reducible rfl
     rotate_left
     ·simp only [Act.put, List.setIfInBounds_toArray, List.set_cons_zero, List.set_cons_succ, i64_w, i32_w]
      rfl
     refine pure_ (i := 5) (N := some 66) (v := ?_) (a' := ?_) #[true, true, true, true, true, true, false, false, false] rfl rfl (any_of HT_.out (by kernel_rfl)) (fun _ _ _ h => h) (Or.inl ⟨by rfl, ?_⟩) ?_ ?_
     rotate_left
     ·intro w'
      go_simp
      with_reducible rfl
     rotate_left
     ·simp only [Act.put, List.setIfInBounds_toArray, List.set_cons_zero, List.set_cons_succ, i64_w, i32_w]
      rfl
     refine take_ (i := 6) (N := some 67) (v := ?_) (a' := ?_) #[true, true, true, true, true, true, true, false, false] rfl rfl (take_ofW HT_.out HW_.out (by kernel_rfl)) (fun _ _ _ h => h) (Or.inl ⟨by rfl, ?_⟩) hHeld ?_ ?_
     rotate_left
     ·rintro w' ⟨s0, s1⟩
      go_simp
      with_reducible rfl
     rotate_left
     ·simp only [Act.put, List.setIfInBounds_toArray, List.set_cons_zero, List.set_cons_succ, i64_w, i32_w]
      rfl
     refine one_ (i := 7) (N := some 68) #[true, true, true, true, true, true, true, true, false] rfl rfl (one_of HT_.out (by kernel_rfl)) (by decide) (fun K hK => ?_)
     refine call_ 134 #[.pointer (some ⟨b, 0, none⟩), .int .i64 k0, .int .i64 k1] (by rfl) rfl ?hrun17_7 ?hq17_7
     case hrun17_7 =>
      have he := enters_of Try.func134 (by kernel_rfl) rfl
      unfold execOp
      simp [resolve, Deferred.ofValue, invoke, Act.eval, he]
     refine (sor_any n k0 k1 w0 wd b (RK ok w) _ _ r gs' HMd.out.now_ hend).mono ?_
     rintro e we ⟨rfl, v9, hm9⟩
     have n0_ := Aside0.mk (HMd.out.trans hm9)
     have n1_ := Aside0.mk (hm9.ints HMd.out.now_ (by decide) HLd.out)
     have n2_ := Aside0.mk (hm9.other HMd.out.now_ HEd.out (by decide) (by decide))
     clear HMd HLd HEd hm9
     refine ⟨_, rfl, ?_⟩
     refine hK.out _ _ (by have n1c0 := (row_at n1_.out 0 (HLEN0.out)).trans (by rw [HK0.out]); have n1c1 := (row_at n1_.out 1 (HLEN1.out)).trans (by rw [HK1.out]); exact ⟨n1c0, n1c1⟩) (fun hHeld => ?_)
     clear hK K
     refine norm_ (a' := ?_) ?_ ?_
     rotate_left
     ·show Act.put _ (some 68) _ = _
      simp only [Act.put, List.setIfInBounds_toArray, List.set_cons_zero, List.set_cons_succ, i64_w, i32_w]
      rfl
     refine pure_ (i := 8) (N := some 4) (v := ?_) (a' := ?_) #[true, true, true, true, true, true, true, true, true] rfl rfl (any_of HT_.out (by kernel_rfl)) (fun _ _ _ h => h) (Or.inl ⟨by rfl, ?_⟩) ?_ ?_
     rotate_left
     ·intro w'
      go_simp
      with_reducible rfl
     rotate_left
     ·simp only [Act.put, List.setIfInBounds_toArray, List.set_cons_zero, List.set_cons_succ, i64_w, i32_w]
      rfl
     refine done_ (done_of HT_.out (by kernel_rfl)) ?_
     clear hHeld HT_ HW_
     have HME := n0_
     have HL := n1_
     have HE := n2_
     clear n0_ n1_ n2_
     go_wp2
     go_ret
     exact ⟨rfl, _, HME.out⟩
    rw [if_neg h5] at hend
    have t5 : (kind == 5) = false := beq_eq_false_iff_ne.mpr h5
    clear h5
    by_cases h6 : kind = 6
    ·rw [if_pos h6] at hend
     have t6 : (kind == 6) = true := beq_iff_eq.mpr h6
     clear h6
     by_cases hl : 2 ≤ kq.length
     rotate_left
     ·rw [if_neg hl] at hend; cases hend
     rw [if_pos hl] at hend
     obtain ⟨q, cq, eq_, -, -, -⟩ := Kd.R_form HL.out (by omega)
     subst eq_
     have HLEN0 := Aside0.mk (show 0 < kq.length by omega)
     obtain ⟨k0, hk0⟩ : ∃ k, kq.getD 0 0 = k := ⟨_, rfl⟩
     have HK0 := Aside0.mk hk0
     have HLEN1 := Aside0.mk (show 1 < kq.length by omega)
     obtain ⟨k1, hk1⟩ : ∃ k, kq.getD 1 0 = k := ⟨_, rfl⟩
     have HK1 := Aside0.mk hk1
     rw [hk0, hk1] at hend
     clear hk0 hk1
     clear hl
     have hn0 : 0 < kq.length := HLEN0.out
     have hn1 : 1 < kq.length := HLEN1.out
     have hz0 : (0 : Int) < (kq.length : Int) := by have := HLEN0.out; omega
     have hz1 : (1 : Int) < (kq.length : Int) := by have := HLEN1.out; omega
     obtain ⟨⟨r1, s1⟩, e1, hend⟩ := Option.bind_eq_some_iff.1 hend
     obtain ⟨⟨r2, s2⟩, e2, hend⟩ := Option.bind_eq_some_iff.1 hend
     simp only at e2 hend
     have E1 := Aside0.mk e1
     have E2 := Aside0.mk e2
     have E3 := Aside0.mk hend
     clear e1 e2 hend
     go_upto_region 19 with fail
     clear y0 y2
     have hc0 : wcur.cell? ⟨q, 0, none⟩ = some (.int .i64 k0) := (row_at HL.out 0 HLEN0.out).trans (by rw [HK0.out])
     have hc1 : wcur.cell? ⟨q, 1, none⟩ = some (.int .i64 k1) := (row_at HL.out 1 HLEN1.out).trans (by rw [HK1.out])
     refine start_ (n := 10) (S := fun w' => w'.cell? ⟨q, 0, none⟩ = some (.int .i64 k0) ∧ w'.cell? ⟨q, 1, none⟩ = some (.int .i64 k1)) (ds := []) #[false, false, false, false, false, false, false, false, false, false] (by kernel_rfl) rfl rfl ⟨hc0, hc1⟩ (fun hHeld => ?_)
     refine with_tabW mk19_tab mk19_bits (fun HT_ HW_ => ?_)
     have HMd := Aside0.mk (HME.out.below (below_drew (Below.refl _ _)))
     have HLd := Aside0.mk (Kd.R_drew HL.out)
     have HEd := Aside0.mk (blk_drew HE.out)
     clear HME HL HE hc0 hc1
     generalize wcur.drew = wd at HMd HLd HEd hHeld ⊢
     refine pure_ (i := 0) (N := some 71) (v := ?_) (a' := ?_) #[true, false, false, false, false, false, false, false, false, false] rfl rfl (any_of HT_.out (by kernel_rfl)) (fun _ _ _ h => h) (Or.inl ⟨by rfl, ?_⟩) ?_ ?_
     rotate_left
     ·intro w'
      go_simp
      with_reducible rfl
     rotate_left
     ·simp only [Act.put, List.setIfInBounds_toArray, List.set_cons_zero, List.set_cons_succ, i64_w, i32_w]
      rfl
     refine pure_ (i := 1) (N := some 72) (v := ?_) (a' := ?_) #[true, true, false, false, false, false, false, false, false, false] rfl rfl (any_of HT_.out (by kernel_rfl)) (fun _ _ _ h => h) (Or.inl ⟨by rfl, ?_⟩) ?_ ?_
     rotate_left
     ·intro w'
      go_simp
      with_reducible rfl
     rotate_left
     ·simp only [Act.put, List.setIfInBounds_toArray, List.set_cons_zero, List.set_cons_succ, i64_w, i32_w]
      rfl
     refine pure_ (i := 2) (N := some 73) (v := ?_) (a' := ?_) #[true, true, true, false, false, false, false, false, false, false] rfl rfl (any_of HT_.out (by kernel_rfl)) (fun _ _ _ h => h) (Or.inl ⟨by rfl, ?_⟩) ?_ ?_
     rotate_left
     ·intro w'
      go_simp
      with_reducible rfl
     rotate_left
     ·simp only [Act.put, List.setIfInBounds_toArray, List.set_cons_zero, List.set_cons_succ, i64_w, i32_w]
      rfl
     refine take_ (i := 3) (N := some 74) (v := ?_) (a' := ?_) #[true, true, true, true, false, false, false, false, false, false] rfl rfl (take_ofW HT_.out HW_.out (by kernel_rfl)) (fun _ _ _ h => h) (Or.inl ⟨by rfl, ?_⟩) hHeld ?_ ?_
     rotate_left
     ·rintro w' ⟨s0, s1⟩
      go_simp
      with_reducible rfl
     rotate_left
     ·simp only [Act.put, List.setIfInBounds_toArray, List.set_cons_zero, List.set_cons_succ, i64_w, i32_w]
      rfl
     refine pure_ (i := 4) (N := some 75) (v := ?_) (a' := ?_) #[true, true, true, true, true, false, false, false, false, false] rfl rfl (any_of HT_.out (by kernel_rfl)) (fun _ _ _ h => h) (Or.inl ⟨by rfl, ?_⟩) ?_ ?_
     rotate_left
     ·intro w'
      go_simp
      with_reducible rfl
     rotate_left
     ·simp only [Act.put, List.setIfInBounds_toArray, List.set_cons_zero, List.set_cons_succ, i64_w, i32_w]
      rfl
     refine pure_ (i := 5) (N := some 76) (v := ?_) (a' := ?_) #[true, true, true, true, true, true, false, false, false, false] rfl rfl (any_of HT_.out (by kernel_rfl)) (fun _ _ _ h => h) (Or.inl ⟨by rfl, ?_⟩) ?_ ?_
     rotate_left
     ·intro w'
      go_simp
      with_reducible rfl
     rotate_left
     ·simp only [Act.put, List.setIfInBounds_toArray, List.set_cons_zero, List.set_cons_succ, i64_w, i32_w]
      rfl
     refine take_ (i := 6) (N := some 77) (v := ?_) (a' := ?_) #[true, true, true, true, true, true, true, false, false, false] rfl rfl (take_ofW HT_.out HW_.out (by kernel_rfl)) (fun _ _ _ h => h) (Or.inl ⟨by rfl, ?_⟩) hHeld ?_ ?_
     rotate_left
     ·rintro w' ⟨s0, s1⟩
      go_simp
      with_reducible rfl
     rotate_left
     ·simp only [Act.put, List.setIfInBounds_toArray, List.set_cons_zero, List.set_cons_succ, i64_w, i32_w]
      rfl
     refine one_ (i := 7) (N := some 78) #[true, true, true, true, true, true, true, true, false, false] rfl rfl (one_of HT_.out (by kernel_rfl)) (by decide) (fun K hK => ?_)
     refine call_ 132 #[.int .i64 k1] (by rfl) rfl ?hrun19_7 ?hq19_7
     case hrun19_7 =>
      have he := enters_of Try.func132 (by kernel_rfl) rfl
      unfold execOp
      simp [resolve, Deferred.ofValue, invoke, Act.eval, he]
     refine (not_any k1 wd).mono ?_
     rintro e wn ⟨rfl, hd⟩
     have n0_ := Aside0.mk (HMd.out.below hd.below)
     have n1_ := Aside0.mk (Kd.R_below HLd.out hd.below)
     have n2_ := Aside0.mk (blk_below HEd.out hd.below)
     clear HMd HLd HEd hd
     refine ⟨_, rfl, ?_⟩
     refine hK.out _ _ (by have n1c0 := (row_at n1_.out 0 (HLEN0.out)).trans (by rw [HK0.out]); have n1c1 := (row_at n1_.out 1 (HLEN1.out)).trans (by rw [HK1.out]); exact ⟨n1c0, n1c1⟩) (fun hHeld => ?_)
     clear hK K
     refine norm_ (a' := ?_) ?_ ?_
     rotate_left
     ·show Act.put _ (some 78) _ = _
      simp only [Act.put, List.setIfInBounds_toArray, List.set_cons_zero, List.set_cons_succ, i64_w, i32_w]
      rfl
     have HMd := n0_
     have HLd := n1_
     have HEd := n2_
     clear n0_ n1_ n2_
     refine one_ (i := 8) (N := some 79) #[true, true, true, true, true, true, true, true, true, false] rfl rfl (one_of HT_.out (by kernel_rfl)) (by decide) (fun K hK => ?_)
     refine call_ 133 #[.pointer (some ⟨b, 0, none⟩), .int .i64 k0, .int .i64 (notS k1)] (by rfl) rfl ?hrun19_8 ?hq19_8
     case hrun19_8 =>
      have he := enters_of Try.func133 (by kernel_rfl) rfl
      unfold execOp
      simp [resolve, Deferred.ofValue, invoke, Act.eval, he]
     refine (sand_any n k0 (notS k1) w0 wn b (RK ok w) _ _ r1 s1 HMd.out.now_ E1.out).mono ?_
     rintro e we ⟨rfl, v9, hm9⟩
     have n0_ := Aside0.mk (HMd.out.trans hm9)
     have n1_ := Aside0.mk (hm9.ints HMd.out.now_ (by decide) HLd.out)
     have n2_ := Aside0.mk (hm9.other HMd.out.now_ HEd.out (by decide) (by decide))
     clear HMd HLd HEd hm9
     refine ⟨_, rfl, ?_⟩
     refine hK.out _ _ (by have n1c0 := (row_at n1_.out 0 (HLEN0.out)).trans (by rw [HK0.out]); have n1c1 := (row_at n1_.out 1 (HLEN1.out)).trans (by rw [HK1.out]); exact ⟨n1c0, n1c1⟩) (fun hHeld => ?_)
     clear hK K
     refine norm_ (a' := ?_) ?_ ?_
     rotate_left
     ·show Act.put _ (some 79) _ = _
      simp only [Act.put, List.setIfInBounds_toArray, List.set_cons_zero, List.set_cons_succ, i64_w, i32_w]
      rfl
     refine pure_ (i := 9) (N := some 7) (v := ?_) (a' := ?_) #[true, true, true, true, true, true, true, true, true, true] rfl rfl (any_of HT_.out (by kernel_rfl)) (fun _ _ _ h => h) (Or.inl ⟨by rfl, ?_⟩) ?_ ?_
     rotate_left
     ·intro w'
      go_simp
      with_reducible rfl
     rotate_left
     ·simp only [Act.put, List.setIfInBounds_toArray, List.set_cons_zero, List.set_cons_succ, i64_w, i32_w]
      rfl
     refine done_ (done_of HT_.out (by kernel_rfl)) ?_
     clear hHeld HT_ HW_
     have HME := n0_
     have HL := n1_
     have HE := n2_
     clear n0_ n1_ n2_
     obtain ⟨wcur, hwc⟩ : ∃ x, x = we := ⟨_, rfl⟩
     subst hwc
     go_upto_region 20 with fail
     have hc0 : wcur.cell? ⟨q, 0, none⟩ = some (.int .i64 k0) := (row_at HL.out 0 HLEN0.out).trans (by rw [HK0.out])
     have hc1 : wcur.cell? ⟨q, 1, none⟩ = some (.int .i64 k1) := (row_at HL.out 1 HLEN1.out).trans (by rw [HK1.out])
     refine start_ (n := 10) (S := fun w' => w'.cell? ⟨q, 0, none⟩ = some (.int .i64 k0) ∧ w'.cell? ⟨q, 1, none⟩ = some (.int .i64 k1)) (ds := []) #[false, false, false, false, false, false, false, false, false, false] (by kernel_rfl) rfl rfl ⟨hc0, hc1⟩ (fun hHeld => ?_)
     refine with_tabW mk20_tab mk20_bits (fun HT_ HW_ => ?_)
     have HMd := Aside0.mk (HME.out.below (below_drew (Below.refl _ _)))
     have HLd := Aside0.mk (Kd.R_drew HL.out)
     have HEd := Aside0.mk (blk_drew HE.out)
     clear HME HL HE hc0 hc1
     generalize wcur.drew = wd at HMd HLd HEd hHeld ⊢
     refine pure_ (i := 0) (N := some 80) (v := ?_) (a' := ?_) #[true, false, false, false, false, false, false, false, false, false] rfl rfl (any_of HT_.out (by kernel_rfl)) (fun _ _ _ h => h) (Or.inl ⟨by rfl, ?_⟩) ?_ ?_
     rotate_left
     ·intro w'
      go_simp
      with_reducible rfl
     rotate_left
     ·simp only [Act.put, List.setIfInBounds_toArray, List.set_cons_zero, List.set_cons_succ, i64_w, i32_w]
      rfl
     refine pure_ (i := 1) (N := some 81) (v := ?_) (a' := ?_) #[true, true, false, false, false, false, false, false, false, false] rfl rfl (any_of HT_.out (by kernel_rfl)) (fun _ _ _ h => h) (Or.inl ⟨by rfl, ?_⟩) ?_ ?_
     rotate_left
     ·intro w'
      go_simp
      with_reducible rfl
     rotate_left
     ·simp only [Act.put, List.setIfInBounds_toArray, List.set_cons_zero, List.set_cons_succ, i64_w, i32_w]
      rfl
     refine pure_ (i := 2) (N := some 82) (v := ?_) (a' := ?_) #[true, true, true, false, false, false, false, false, false, false] rfl rfl (any_of HT_.out (by kernel_rfl)) (fun _ _ _ h => h) (Or.inl ⟨by rfl, ?_⟩) ?_ ?_
     rotate_left
     ·intro w'
      go_simp
      with_reducible rfl
     rotate_left
     ·simp only [Act.put, List.setIfInBounds_toArray, List.set_cons_zero, List.set_cons_succ, i64_w, i32_w]
      rfl
     refine take_ (i := 3) (N := some 83) (v := ?_) (a' := ?_) #[true, true, true, true, false, false, false, false, false, false] rfl rfl (take_ofW HT_.out HW_.out (by kernel_rfl)) (fun _ _ _ h => h) (Or.inl ⟨by rfl, ?_⟩) hHeld ?_ ?_
     rotate_left
     ·rintro w' ⟨s0, s1⟩
      go_simp
      with_reducible rfl
     rotate_left
     ·simp only [Act.put, List.setIfInBounds_toArray, List.set_cons_zero, List.set_cons_succ, i64_w, i32_w]
      rfl
     refine pure_ (i := 5) (N := some 85) (v := ?_) (a' := ?_) #[true, true, true, true, false, true, false, false, false, false] rfl rfl (any_of HT_.out (by kernel_rfl)) (fun _ _ _ h => h) (Or.inl ⟨by rfl, ?_⟩) ?_ ?_
     rotate_left
     ·intro w'
      go_simp
      with_reducible rfl
     rotate_left
     ·simp only [Act.put, List.setIfInBounds_toArray, List.set_cons_zero, List.set_cons_succ, i64_w, i32_w]
      rfl
     refine pure_ (i := 6) (N := some 86) (v := ?_) (a' := ?_) #[true, true, true, true, false, true, true, false, false, false] rfl rfl (any_of HT_.out (by kernel_rfl)) (fun _ _ _ h => h) (Or.inl ⟨by rfl, ?_⟩) ?_ ?_
     rotate_left
     ·intro w'
      go_simp
      with_reducible rfl
     rotate_left
     ·simp only [Act.put, List.setIfInBounds_toArray, List.set_cons_zero, List.set_cons_succ, i64_w, i32_w]
      rfl
     refine take_ (i := 7) (N := some 87) (v := ?_) (a' := ?_) #[true, true, true, true, false, true, true, true, false, false] rfl rfl (take_ofW HT_.out HW_.out (by kernel_rfl)) (fun _ _ _ h => h) (Or.inl ⟨by rfl, ?_⟩) hHeld ?_ ?_
     rotate_left
     ·rintro w' ⟨s0, s1⟩
      go_simp
      with_reducible rfl
     rotate_left
     ·simp only [Act.put, List.setIfInBounds_toArray, List.set_cons_zero, List.set_cons_succ, i64_w, i32_w]
      rfl
     refine one_ (i := 4) (N := some 84) #[true, true, true, true, true, true, true, true, false, false] rfl rfl (one_of HT_.out (by kernel_rfl)) (by decide) (fun K hK => ?_)
     refine call_ 132 #[.int .i64 k0] (by rfl) rfl ?hrun20_4 ?hq20_4
     case hrun20_4 =>
      have he := enters_of Try.func132 (by kernel_rfl) rfl
      unfold execOp
      simp [resolve, Deferred.ofValue, invoke, Act.eval, he]
     refine (not_any k0 wd).mono ?_
     rintro e wn ⟨rfl, hd⟩
     have n0_ := Aside0.mk (HMd.out.below hd.below)
     have n1_ := Aside0.mk (Kd.R_below HLd.out hd.below)
     have n2_ := Aside0.mk (blk_below HEd.out hd.below)
     clear HMd HLd HEd hd
     refine ⟨_, rfl, ?_⟩
     refine hK.out _ _ (by have n1c0 := (row_at n1_.out 0 (HLEN0.out)).trans (by rw [HK0.out]); have n1c1 := (row_at n1_.out 1 (HLEN1.out)).trans (by rw [HK1.out]); exact ⟨n1c0, n1c1⟩) (fun hHeld => ?_)
     clear hK K
     refine norm_ (a' := ?_) ?_ ?_
     rotate_left
     ·show Act.put _ (some 84) _ = _
      simp only [Act.put, List.setIfInBounds_toArray, List.set_cons_zero, List.set_cons_succ, i64_w, i32_w]
      rfl
     have HMd := n0_
     have HLd := n1_
     have HEd := n2_
     clear n0_ n1_ n2_
     refine one_ (i := 8) (N := some 88) #[true, true, true, true, true, true, true, true, true, false] rfl rfl (one_of HT_.out (by kernel_rfl)) (by decide) (fun K hK => ?_)
     refine call_ 133 #[.pointer (some ⟨b, 0, none⟩), .int .i64 (notS k0), .int .i64 k1] (by rfl) rfl ?hrun20_8 ?hq20_8
     case hrun20_8 =>
      have he := enters_of Try.func133 (by kernel_rfl) rfl
      unfold execOp
      simp [resolve, Deferred.ofValue, invoke, Act.eval, he]
     refine (sand_any n (notS k0) k1 w0 wn b (RK ok w) _ _ r2 s2 HMd.out.now_ E2.out).mono ?_
     rintro e we ⟨rfl, v9, hm9⟩
     have n0_ := Aside0.mk (HMd.out.trans hm9)
     have n1_ := Aside0.mk (hm9.ints HMd.out.now_ (by decide) HLd.out)
     have n2_ := Aside0.mk (hm9.other HMd.out.now_ HEd.out (by decide) (by decide))
     clear HMd HLd HEd hm9
     refine ⟨_, rfl, ?_⟩
     refine hK.out _ _ (by have n1c0 := (row_at n1_.out 0 (HLEN0.out)).trans (by rw [HK0.out]); have n1c1 := (row_at n1_.out 1 (HLEN1.out)).trans (by rw [HK1.out]); exact ⟨n1c0, n1c1⟩) (fun hHeld => ?_)
     clear hK K
     refine norm_ (a' := ?_) ?_ ?_
     rotate_left
     ·show Act.put _ (some 88) _ = _
      simp only [Act.put, List.setIfInBounds_toArray, List.set_cons_zero, List.set_cons_succ, i64_w, i32_w]
      rfl
     refine pure_ (i := 9) (N := some 8) (v := ?_) (a' := ?_) #[true, true, true, true, true, true, true, true, true, true] rfl rfl (any_of HT_.out (by kernel_rfl)) (fun _ _ _ h => h) (Or.inl ⟨by rfl, ?_⟩) ?_ ?_
     rotate_left
     ·intro w'
      go_simp
      with_reducible rfl
     rotate_left
     ·simp only [Act.put, List.setIfInBounds_toArray, List.set_cons_zero, List.set_cons_succ, i64_w, i32_w]
      rfl
     refine done_ (done_of HT_.out (by kernel_rfl)) ?_
     clear hHeld HT_ HW_
     have HME := n0_
     have HL := n1_
     have HE := n2_
     clear n0_ n1_ n2_
     obtain ⟨wcur, hwc⟩ : ∃ x, x = we := ⟨_, rfl⟩
     subst hwc
     obtain hor := sor_any n r1 r2 w0 wcur b (RK ok w) _ _ r gs' HME.out.now_ E3.out
     go_wp2_with (go_at_call 134; refine hor.mono ?_; rintro e w11 ⟨rfl, v11, hm11⟩; have HM11 := Aside0.mk (HME.out.trans hm11); clear hor hm11)
     go_ret
     exact ⟨rfl, _, HM11.out⟩
    rw [if_neg h6] at hend
    have t6 : (kind == 6) = false := beq_eq_false_iff_ne.mpr h6
    clear h6
    by_cases hl : 3 ≤ kq.length
    rotate_left
    ·rw [if_neg hl] at hend; cases hend
    rw [if_pos hl] at hend
    obtain ⟨q, cq, eq_, -, -, -⟩ := Kd.R_form HL.out (by omega)
    subst eq_
    have HLEN0 := Aside0.mk (show 0 < kq.length by omega)
    obtain ⟨k0, hk0⟩ : ∃ k, kq.getD 0 0 = k := ⟨_, rfl⟩
    have HK0 := Aside0.mk hk0
    have HLEN1 := Aside0.mk (show 1 < kq.length by omega)
    obtain ⟨k1, hk1⟩ : ∃ k, kq.getD 1 0 = k := ⟨_, rfl⟩
    have HK1 := Aside0.mk hk1
    have HLEN2 := Aside0.mk (show 2 < kq.length by omega)
    obtain ⟨k2, hk2⟩ : ∃ k, kq.getD 2 0 = k := ⟨_, rfl⟩
    have HK2 := Aside0.mk hk2
    rw [hk0, hk1, hk2] at hend
    clear hk0 hk1 hk2
    clear hl
    have hn0 : 0 < kq.length := HLEN0.out
    have hn1 : 1 < kq.length := HLEN1.out
    have hz0 : (0 : Int) < (kq.length : Int) := by have := HLEN0.out; omega
    have hz1 : (1 : Int) < (kq.length : Int) := by have := HLEN1.out; omega
    have hn2 : 2 < kq.length := HLEN2.out
    have hz2 : (2 : Int) < (kq.length : Int) := by have := HLEN2.out; omega
    obtain ⟨⟨r1, s1⟩, e1, hend⟩ := Option.bind_eq_some_iff.1 hend
    obtain ⟨⟨r2, s2⟩, e2, hend⟩ := Option.bind_eq_some_iff.1 hend
    simp only at e2 hend
    have E1 := Aside0.mk e1
    have E2 := Aside0.mk e2
    have E3 := Aside0.mk hend
    clear e1 e2 hend
    go_upto_region 22 with fail
    clear y0 y2
    have hc0 : wcur.cell? ⟨q, 0, none⟩ = some (.int .i64 k0) := (row_at HL.out 0 HLEN0.out).trans (by rw [HK0.out])
    have hc1 : wcur.cell? ⟨q, 1, none⟩ = some (.int .i64 k1) := (row_at HL.out 1 HLEN1.out).trans (by rw [HK1.out])
    refine start_ (n := 9) (S := fun w' => w'.cell? ⟨q, 0, none⟩ = some (.int .i64 k0) ∧ w'.cell? ⟨q, 1, none⟩ = some (.int .i64 k1)) (ds := []) #[false, false, false, false, false, false, false, false, false] (by kernel_rfl) rfl rfl ⟨hc0, hc1⟩ (fun hHeld => ?_)
    refine with_tabW mk22_tab mk22_bits (fun HT_ HW_ => ?_)
    have HMd := Aside0.mk (HME.out.below (below_drew (Below.refl _ _)))
    have HLd := Aside0.mk (Kd.R_drew HL.out)
    have HEd := Aside0.mk (blk_drew HE.out)
    clear HME HL HE hc0 hc1
    generalize wcur.drew = wd at HMd HLd HEd hHeld ⊢
    refine pure_ (i := 0) (N := some 93) (v := ?_) (a' := ?_) #[true, false, false, false, false, false, false, false, false] rfl rfl (any_of HT_.out (by kernel_rfl)) (fun _ _ _ h => h) (Or.inl ⟨by rfl, ?_⟩) ?_ ?_
    rotate_left
    ·intro w'
     go_simp
     with_reducible rfl
    rotate_left
    ·simp only [Act.put, List.setIfInBounds_toArray, List.set_cons_zero, List.set_cons_succ, i64_w, i32_w]
     rfl
    refine pure_ (i := 1) (N := some 94) (v := ?_) (a' := ?_) #[true, true, false, false, false, false, false, false, false] rfl rfl (any_of HT_.out (by kernel_rfl)) (fun _ _ _ h => h) (Or.inl ⟨by rfl, ?_⟩) ?_ ?_
    rotate_left
    ·intro w'
     go_simp
     with_reducible rfl
    rotate_left
    ·simp only [Act.put, List.setIfInBounds_toArray, List.set_cons_zero, List.set_cons_succ, i64_w, i32_w]
     rfl
    refine pure_ (i := 2) (N := some 95) (v := ?_) (a' := ?_) #[true, true, true, false, false, false, false, false, false] rfl rfl (any_of HT_.out (by kernel_rfl)) (fun _ _ _ h => h) (Or.inl ⟨by rfl, ?_⟩) ?_ ?_
    rotate_left
    ·intro w'
     go_simp
     with_reducible rfl
    rotate_left
    ·simp only [Act.put, List.setIfInBounds_toArray, List.set_cons_zero, List.set_cons_succ, i64_w, i32_w]
     rfl
    refine take_ (i := 3) (N := some 96) (v := ?_) (a' := ?_) #[true, true, true, true, false, false, false, false, false] rfl rfl (take_ofW HT_.out HW_.out (by kernel_rfl)) (fun _ _ _ h => h) (Or.inl ⟨by rfl, ?_⟩) hHeld ?_ ?_
    rotate_left
    ·rintro w' ⟨s0, s1⟩
     go_simp
     with_reducible rfl
    rotate_left
    ·simp only [Act.put, List.setIfInBounds_toArray, List.set_cons_zero, List.set_cons_succ, i64_w, i32_w]
     rfl
    refine pure_ (i := 4) (N := some 97) (v := ?_) (a' := ?_) #[true, true, true, true, true, false, false, false, false] rfl rfl (any_of HT_.out (by kernel_rfl)) (fun _ _ _ h => h) (Or.inl ⟨by rfl, ?_⟩) ?_ ?_
    rotate_left
    ·intro w'
     go_simp
     with_reducible rfl
    rotate_left
    ·simp only [Act.put, List.setIfInBounds_toArray, List.set_cons_zero, List.set_cons_succ, i64_w, i32_w]
     rfl
    refine pure_ (i := 5) (N := some 98) (v := ?_) (a' := ?_) #[true, true, true, true, true, true, false, false, false] rfl rfl (any_of HT_.out (by kernel_rfl)) (fun _ _ _ h => h) (Or.inl ⟨by rfl, ?_⟩) ?_ ?_
    rotate_left
    ·intro w'
     go_simp
     with_reducible rfl
    rotate_left
    ·simp only [Act.put, List.setIfInBounds_toArray, List.set_cons_zero, List.set_cons_succ, i64_w, i32_w]
     rfl
    refine take_ (i := 6) (N := some 99) (v := ?_) (a' := ?_) #[true, true, true, true, true, true, true, false, false] rfl rfl (take_ofW HT_.out HW_.out (by kernel_rfl)) (fun _ _ _ h => h) (Or.inl ⟨by rfl, ?_⟩) hHeld ?_ ?_
    rotate_left
    ·rintro w' ⟨s0, s1⟩
     go_simp
     with_reducible rfl
    rotate_left
    ·simp only [Act.put, List.setIfInBounds_toArray, List.set_cons_zero, List.set_cons_succ, i64_w, i32_w]
     rfl
    refine one_ (i := 7) (N := some 100) #[true, true, true, true, true, true, true, true, false] rfl rfl (one_of HT_.out (by kernel_rfl)) (by decide) (fun K hK => ?_)
    refine call_ 133 #[.pointer (some ⟨b, 0, none⟩), .int .i64 k0, .int .i64 k1] (by rfl) rfl ?hrun22_7 ?hq22_7
    case hrun22_7 =>
     have he := enters_of Try.func133 (by kernel_rfl) rfl
     unfold execOp
     simp [resolve, Deferred.ofValue, invoke, Act.eval, he]
    refine (sand_any n k0 k1 w0 wd b (RK ok w) _ _ r1 s1 HMd.out.now_ E1.out).mono ?_
    rintro e we ⟨rfl, v9, hm9⟩
    have n0_ := Aside0.mk (HMd.out.trans hm9)
    have n1_ := Aside0.mk (hm9.ints HMd.out.now_ (by decide) HLd.out)
    have n2_ := Aside0.mk (hm9.other HMd.out.now_ HEd.out (by decide) (by decide))
    clear HMd HLd HEd hm9
    refine ⟨_, rfl, ?_⟩
    refine hK.out _ _ (by have n1c0 := (row_at n1_.out 0 (HLEN0.out)).trans (by rw [HK0.out]); have n1c1 := (row_at n1_.out 1 (HLEN1.out)).trans (by rw [HK1.out]); exact ⟨n1c0, n1c1⟩) (fun hHeld => ?_)
    clear hK K
    refine norm_ (a' := ?_) ?_ ?_
    rotate_left
    ·show Act.put _ (some 100) _ = _
     simp only [Act.put, List.setIfInBounds_toArray, List.set_cons_zero, List.set_cons_succ, i64_w, i32_w]
     rfl
    refine pure_ (i := 8) (N := some 9) (v := ?_) (a' := ?_) #[true, true, true, true, true, true, true, true, true] rfl rfl (any_of HT_.out (by kernel_rfl)) (fun _ _ _ h => h) (Or.inl ⟨by rfl, ?_⟩) ?_ ?_
    rotate_left
    ·intro w'
     go_simp
     with_reducible rfl
    rotate_left
    ·simp only [Act.put, List.setIfInBounds_toArray, List.set_cons_zero, List.set_cons_succ, i64_w, i32_w]
     rfl
    refine done_ (done_of HT_.out (by kernel_rfl)) ?_
    clear hHeld HT_ HW_
    have HME := n0_
    have HL := n1_
    have HE := n2_
    clear n0_ n1_ n2_
    obtain ⟨wcur, hwc⟩ : ∃ x, x = we := ⟨_, rfl⟩
    subst hwc
    go_upto_region 23 with fail
    have hc0 : wcur.cell? ⟨q, 0, none⟩ = some (.int .i64 k0) := (row_at HL.out 0 HLEN0.out).trans (by rw [HK0.out])
    have hc2 : wcur.cell? ⟨q, 2, none⟩ = some (.int .i64 k2) := (row_at HL.out 2 HLEN2.out).trans (by rw [HK2.out])
    refine start_ (n := 10) (S := fun w' => w'.cell? ⟨q, 0, none⟩ = some (.int .i64 k0) ∧ w'.cell? ⟨q, 2, none⟩ = some (.int .i64 k2)) (ds := []) #[false, false, false, false, false, false, false, false, false, false] (by kernel_rfl) rfl rfl ⟨hc0, hc2⟩ (fun hHeld => ?_)
    refine with_tabW mk23_tab mk23_bits (fun HT_ HW_ => ?_)
    have HMd := Aside0.mk (HME.out.below (below_drew (Below.refl _ _)))
    have HLd := Aside0.mk (Kd.R_drew HL.out)
    have HEd := Aside0.mk (blk_drew HE.out)
    clear HME HL HE hc0 hc2
    generalize wcur.drew = wd at HMd HLd HEd hHeld ⊢
    refine pure_ (i := 0) (N := some 101) (v := ?_) (a' := ?_) #[true, false, false, false, false, false, false, false, false, false] rfl rfl (any_of HT_.out (by kernel_rfl)) (fun _ _ _ h => h) (Or.inl ⟨by rfl, ?_⟩) ?_ ?_
    rotate_left
    ·intro w'
     go_simp
     with_reducible rfl
    rotate_left
    ·simp only [Act.put, List.setIfInBounds_toArray, List.set_cons_zero, List.set_cons_succ, i64_w, i32_w]
     rfl
    refine pure_ (i := 1) (N := some 102) (v := ?_) (a' := ?_) #[true, true, false, false, false, false, false, false, false, false] rfl rfl (any_of HT_.out (by kernel_rfl)) (fun _ _ _ h => h) (Or.inl ⟨by rfl, ?_⟩) ?_ ?_
    rotate_left
    ·intro w'
     go_simp
     with_reducible rfl
    rotate_left
    ·simp only [Act.put, List.setIfInBounds_toArray, List.set_cons_zero, List.set_cons_succ, i64_w, i32_w]
     rfl
    refine pure_ (i := 2) (N := some 103) (v := ?_) (a' := ?_) #[true, true, true, false, false, false, false, false, false, false] rfl rfl (any_of HT_.out (by kernel_rfl)) (fun _ _ _ h => h) (Or.inl ⟨by rfl, ?_⟩) ?_ ?_
    rotate_left
    ·intro w'
     go_simp
     with_reducible rfl
    rotate_left
    ·simp only [Act.put, List.setIfInBounds_toArray, List.set_cons_zero, List.set_cons_succ, i64_w, i32_w]
     rfl
    refine take_ (i := 3) (N := some 104) (v := ?_) (a' := ?_) #[true, true, true, true, false, false, false, false, false, false] rfl rfl (take_ofW HT_.out HW_.out (by kernel_rfl)) (fun _ _ _ h => h) (Or.inl ⟨by rfl, ?_⟩) hHeld ?_ ?_
    rotate_left
    ·rintro w' ⟨s0, s1⟩
     go_simp
     with_reducible rfl
    rotate_left
    ·simp only [Act.put, List.setIfInBounds_toArray, List.set_cons_zero, List.set_cons_succ, i64_w, i32_w]
     rfl
    refine pure_ (i := 5) (N := some 106) (v := ?_) (a' := ?_) #[true, true, true, true, false, true, false, false, false, false] rfl rfl (any_of HT_.out (by kernel_rfl)) (fun _ _ _ h => h) (Or.inl ⟨by rfl, ?_⟩) ?_ ?_
    rotate_left
    ·intro w'
     go_simp
     with_reducible rfl
    rotate_left
    ·simp only [Act.put, List.setIfInBounds_toArray, List.set_cons_zero, List.set_cons_succ, i64_w, i32_w]
     rfl
    refine pure_ (i := 6) (N := some 107) (v := ?_) (a' := ?_) #[true, true, true, true, false, true, true, false, false, false] rfl rfl (any_of HT_.out (by kernel_rfl)) (fun _ _ _ h => h) (Or.inl ⟨by rfl, ?_⟩) ?_ ?_
    rotate_left
    ·intro w'
     go_simp
     with_reducible rfl
    rotate_left
    ·simp only [Act.put, List.setIfInBounds_toArray, List.set_cons_zero, List.set_cons_succ, i64_w, i32_w]
     rfl
    refine take_ (i := 7) (N := some 108) (v := ?_) (a' := ?_) #[true, true, true, true, false, true, true, true, false, false] rfl rfl (take_ofW HT_.out HW_.out (by kernel_rfl)) (fun _ _ _ h => h) (Or.inl ⟨by rfl, ?_⟩) hHeld ?_ ?_
    rotate_left
    ·rintro w' ⟨s0, s1⟩
     go_simp
     with_reducible rfl
    rotate_left
    ·simp only [Act.put, List.setIfInBounds_toArray, List.set_cons_zero, List.set_cons_succ, i64_w, i32_w]
     rfl
    refine one_ (i := 4) (N := some 105) #[true, true, true, true, true, true, true, true, false, false] rfl rfl (one_of HT_.out (by kernel_rfl)) (by decide) (fun K hK => ?_)
    refine call_ 132 #[.int .i64 k0] (by rfl) rfl ?hrun23_4 ?hq23_4
    case hrun23_4 =>
     have he := enters_of Try.func132 (by kernel_rfl) rfl
     unfold execOp
     simp [resolve, Deferred.ofValue, invoke, Act.eval, he]
    refine (not_any k0 wd).mono ?_
    rintro e wn ⟨rfl, hd⟩
    have n0_ := Aside0.mk (HMd.out.below hd.below)
    have n1_ := Aside0.mk (Kd.R_below HLd.out hd.below)
    have n2_ := Aside0.mk (blk_below HEd.out hd.below)
    clear HMd HLd HEd hd
    refine ⟨_, rfl, ?_⟩
    refine hK.out _ _ (by have n1c0 := (row_at n1_.out 0 (HLEN0.out)).trans (by rw [HK0.out]); have n1c2 := (row_at n1_.out 2 (HLEN2.out)).trans (by rw [HK2.out]); exact ⟨n1c0, n1c2⟩) (fun hHeld => ?_)
    clear hK K
    refine norm_ (a' := ?_) ?_ ?_
    rotate_left
    ·show Act.put _ (some 105) _ = _
     simp only [Act.put, List.setIfInBounds_toArray, List.set_cons_zero, List.set_cons_succ, i64_w, i32_w]
     rfl
    have HMd := n0_
    have HLd := n1_
    have HEd := n2_
    clear n0_ n1_ n2_
    refine one_ (i := 8) (N := some 109) #[true, true, true, true, true, true, true, true, true, false] rfl rfl (one_of HT_.out (by kernel_rfl)) (by decide) (fun K hK => ?_)
    refine call_ 133 #[.pointer (some ⟨b, 0, none⟩), .int .i64 (notS k0), .int .i64 k2] (by rfl) rfl ?hrun23_8 ?hq23_8
    case hrun23_8 =>
     have he := enters_of Try.func133 (by kernel_rfl) rfl
     unfold execOp
     simp [resolve, Deferred.ofValue, invoke, Act.eval, he]
    refine (sand_any n (notS k0) k2 w0 wn b (RK ok w) _ _ r2 s2 HMd.out.now_ E2.out).mono ?_
    rintro e we ⟨rfl, v9, hm9⟩
    have n0_ := Aside0.mk (HMd.out.trans hm9)
    have n1_ := Aside0.mk (hm9.ints HMd.out.now_ (by decide) HLd.out)
    have n2_ := Aside0.mk (hm9.other HMd.out.now_ HEd.out (by decide) (by decide))
    clear HMd HLd HEd hm9
    refine ⟨_, rfl, ?_⟩
    refine hK.out _ _ (by have n1c0 := (row_at n1_.out 0 (HLEN0.out)).trans (by rw [HK0.out]); have n1c2 := (row_at n1_.out 2 (HLEN2.out)).trans (by rw [HK2.out]); exact ⟨n1c0, n1c2⟩) (fun hHeld => ?_)
    clear hK K
    refine norm_ (a' := ?_) ?_ ?_
    rotate_left
    ·show Act.put _ (some 109) _ = _
     simp only [Act.put, List.setIfInBounds_toArray, List.set_cons_zero, List.set_cons_succ, i64_w, i32_w]
     rfl
    refine pure_ (i := 9) (N := some 10) (v := ?_) (a' := ?_) #[true, true, true, true, true, true, true, true, true, true] rfl rfl (any_of HT_.out (by kernel_rfl)) (fun _ _ _ h => h) (Or.inl ⟨by rfl, ?_⟩) ?_ ?_
    rotate_left
    ·intro w'
     go_simp
     with_reducible rfl
    rotate_left
    ·simp only [Act.put, List.setIfInBounds_toArray, List.set_cons_zero, List.set_cons_succ, i64_w, i32_w]
     rfl
    refine done_ (done_of HT_.out (by kernel_rfl)) ?_
    clear hHeld HT_ HW_
    have HME := n0_
    have HL := n1_
    have HE := n2_
    clear n0_ n1_ n2_
    obtain ⟨wcur, hwc⟩ : ∃ x, x = we := ⟨_, rfl⟩
    subst hwc
    obtain hor := sor_any n r1 r2 w0 wcur b (RK ok w) _ _ r gs' HME.out.now_ E3.out
    go_wp2_with (go_at_call 134; refine hor.mono ?_; rintro e w11 ⟨rfl, v11, hm11⟩; have HM11 := Aside0.mk (HME.out.trans hm11); clear hor hm11)
    go_ret
    exact ⟨rfl, _, HM11.out⟩
end Go.Proofs.Ytcmkkoggdcjceaa.PFnExactBuildAig
end
