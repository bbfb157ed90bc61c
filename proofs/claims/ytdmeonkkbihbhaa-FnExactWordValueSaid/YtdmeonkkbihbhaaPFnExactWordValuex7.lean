/- WRITTEN BY A PROGRAM OF THIS SESSION (wip/xprint) OVER THE KIT's PRINT, FOR THIS CLAIM: for Go functions that the law reaches, one Lean function each and the proof that Go's call comes to its answer. No conditions but those that each theorem names. -/
import Derived.Test.YtdmeonkkbihbhaaPFnExactWordValuex0
import Derived.Test.YtdmeonkkbihbhaaPFnExactWordValuex5
import Derived.Test.YtdmeonkkbihbhaaPFnExactWordValuex6
namespace Go.Proofs.Ytdmeonkkbihbhaa.PFnExactWordValue
open Go.RowKit Go.Proofs.YtdmeonkkbihbhaaW.PrintWords Go.Proofs.YtdmeonkkbihbhaaW.PrintLast Go.Proofs.YtdmeonkkbihbhaaW.PrintMore
attribute [local go_sem] max2_int min2_int max_two min_two max_three min_three max_four min_four   -- for this text's walks alone
set_option linter.unusedVariables false
set_option linter.unusedSimpArgs false

/-! ### impl_WordValue: function 52 -/
/-- a value of so many bits -/
def valB (bits n : Int) : Bool := decide (0 ≤ n) && decide (n ≤ wrap64 (wrap64 (2 ^ bits.toNat) - 1))
/-- whether a word is right, as the program tells it -/
def wordI (a0_0 a0_1 : Int) (l0_2 : List (S40)) (a1 : Int) : Bool := (decide (1 ≤ a1) && decide (a1 ≤ 6)) && (countW a1 ⟨a0_0, a0_1, l0_2⟩ 0).1
theorem isWord_I (a0_0 a0_1 : Int) (l0_2 : List (S40)) (a1 : Int) : impl_isWord.f a0_0 a0_1 l0_2 a1 = some (wordI a0_0 a0_1 l0_2 a1) := by
  unfold impl_isWord.f wordI
  cases (decide (1 ≤ a1) && decide (a1 ≤ 6)) with
  | true => rfl
  | false => rfl
set_option maxHeartbeats 4000000 in
set_option maxRecDepth 100000 in
theorem wordValue_fn (n bits : Int) (B : Nat) (W : World) (hb1 : 1 ≤ bits) (hb2 : bits ≤ 6) (hB : W.cell? ⟨B, 0, none⟩ = some (.int .i64 bits)) :
    Calls Try.prog 94 #[.int .i64 n, .pointer (some ⟨B, 0, none⟩)] W fun e W' => e = .returned (.bool (!(valB bits n))) ∧ Below W.heap.size W W' := by
  have hcall := fun V => within_is n 0 (wrap64 (wrap64 (2 ^ bits.toNat) - 1)) (valB bits n) rfl V
  generalize valB bits n = b at hcall ⊢
  go_enter Try.func94, Try.ntmps94
  go_wp2_with (go_at_call 86; refine (hcall _).mono ?_; rintro e w' ⟨rfl, rfl⟩)
  go_ret
  exact ⟨rfl, Below.refl _ _⟩
/-- whether a row of values is of the right length and has right members -/
def valsB (bits : Int) (l : List Int) : Bool := decide (¬ (l.length : Int) = 12 / bits) || l.any fun n => !(valB bits n)
def impl_WordValue.f (k : Nat) (a0_0 a0_1 : Int) (l0_2 : List (S40)) (a1 : Int) (l2 : List Int) : Option (Int × Int) := if (l2.length : Int) > 4096 then some (0, 2) else (if wordI a0_0 a0_1 l0_2 a1 = true then (if valsB a1 l2 = true then some (0, 5) else (impl_wordValue.f k a0_0 a0_1 l0_2 a1 l2).bind fun t => some (t, 0)) else some (0, 1))
theorem impl_WordValue.mono : ∀ a0 a1 a2 a3 a4 k, LeO (impl_WordValue.f k a0 a1 a2 a3 a4) (impl_WordValue.f (k + 1) a0 a1 a2 a3 a4) := by
  intro a0 a1 a2 a3 a4 k
  unfold impl_WordValue.f
  repeat' first
      | (with_reducible exact impl_wordValue.mono _ _ _ _ _ _)
      | (with_reducible exact LeO.refl _)
      | (with_reducible exact LeO.none _)
      | (with_reducible refine LeO.ite ?_ ?_)
      | (with_reducible refine LeO.bind ?_ fun _ => ?_)
set_option maxHeartbeats 4000000 in
set_option maxRecDepth 100000 in
theorem impl_WordValue.calls (k : Nat) (a0_0 : Int) (a0_1 : Int) (A0_2 : Option Addr) (c0_2 : Nat) (l0_2 : List (S40)) (a1 : Int) (A2 : Option Addr) (c2 : Nat) (l2 : List Int) (r1 : Int) (r2 : Int) (w : World) (hr0_2 : Kd.C k40 w A0_2 l0_2.length l0_2) (hc0_2 : l0_2.length ≤ c0_2) (hr2 : Kd.C (Kd.int .i64) w A2 l2.length l2) (hc2 : l2.length ≤ c2) (h : impl_WordValue.f k a0_0 a0_1 l0_2 a1 l2 = some (r1, r2)) :
    Calls Try.prog 52 #[.agg #[.int .i64 a0_0, .int .i64 a0_1, .slice A0_2 l0_2.length c0_2], .int .i64 a1, .slice A2 l2.length c2] w fun e w' => e = .returned (.tuple #[.int .i64 r1, .int .i64 r2]) ∧ Below w.heap.size w w' := by
  unfold impl_WordValue.f at h
  have hB0 : Below w.heap.size w ((w.alloc (.cells #[.int .i64 a0_0, .int .i64 a0_1, .slice A0_2 l0_2.length c0_2] 40)).alloc (.cells #[.int .i64 a1] 3)) := below2 _ _ _
  have hiw := fun V hV => impl_isWord.calls a0_0 a0_1 A0_2 c0_2 l0_2 a1 _ V hV hc0_2 (isWord_I a0_0 a0_1 l0_2 a1)
  have HR := Aside0.mk hr0_2
  have HC := Aside0.mk hc0_2
  have HR2 := Aside0.mk hr2
  have HC2 := Aside0.mk hc2
  have HB := Aside0.mk hB0
  clear hr0_2 hc0_2 hr2 hc2 hB0
  have hu := Try.underlying40
  by_cases t1 : (l2.length : Int) > 4096
  · rw [if_pos t1] at h
    obtain ⟨rfl, rfl⟩ : 0 = r1 ∧ 2 = r2 := by simpa using h
    clear h hiw
    go_enter Try.func52, Try.ntmps52
    go_wp2
    go_ret2
    exact ⟨rfl, HB.out⟩
  · rw [if_neg t1] at h
    have T1 := Aside0.mk t1
    obtain ⟨W0, hW0, hx0, hx1, hx2, hx3⟩ : ∃ W0, ((w.alloc (.cells #[.int .i64 a0_0, .int .i64 a0_1, .slice A0_2 l0_2.length c0_2] 40)).alloc (.cells #[.int .i64 a1] 3)) = W0 ∧ W0.cell? ⟨w.heap.size, 0, none⟩ = some (.int .i64 a0_0) ∧ W0.cell? ⟨w.heap.size, 1, none⟩ = some (.int .i64 a0_1) ∧ W0.cell? ⟨w.heap.size, 2, none⟩ = some (.slice A0_2 l0_2.length c0_2) ∧ W0.cell? ⟨w.heap.size + 1, 0, none⟩ = some (.int .i64 a1) := by
      refine ⟨_, rfl, ?_, ?_, ?_, ?_⟩
      · go_simp
      · go_simp
      · go_simp
      · go_simp
    rw [hW0] at HB
    have HW0 := Aside0.mk hW0
    clear hW0
    have HX := Aside0.mk (And.intro hx0 (And.intro hx1 (And.intro hx2 hx3)))
    clear hx0 hx1 hx2 hx3
    have hcell : ∀ V, Below W0.heap.size W0 V → V.cell? ⟨w.heap.size, 0, none⟩ = some (.int .i64 a0_0) ∧ V.cell? ⟨w.heap.size, 1, none⟩ = some (.int .i64 a0_1) ∧ V.cell? ⟨w.heap.size, 2, none⟩ = some (.slice A0_2 l0_2.length c0_2) ∧ V.cell? ⟨w.heap.size + 1, 0, none⟩ = some (.int .i64 a1) := fun V hV =>
      ⟨(hV.cell (World.block_lt_of_cell? W0 _ HX.out.1)).trans HX.out.1, (hV.cell (World.block_lt_of_cell? W0 _ HX.out.2.1)).trans HX.out.2.1, (hV.cell (World.block_lt_of_cell? W0 _ HX.out.2.2.1)).trans HX.out.2.2.1, (hV.cell (World.block_lt_of_cell? W0 _ HX.out.2.2.2)).trans HX.out.2.2.2⟩
    have hiw0 := hiw W0 (Kd.C_below HR.out HB.out)
    have HCL := Aside0.mk hcell
    clear hiw hcell
    cases hI : wordI a0_0 a0_1 l0_2 a1 with
    | false =>
      rw [hI] at h hiw0
      obtain ⟨rfl, rfl⟩ : 0 = r1 ∧ 1 = r2 := by simpa using h
      clear h hI
      go_enter Try.func52, Try.ntmps52
      go_upto_region 3 with fail
      rw [HW0.out]
      obtain ⟨hx0, hx1, hx2, hx3⟩ := HX.out
      go_wp2_with (go_at_call 63; refine hiw0.mono ?_; rintro e w1 ⟨rfl, hb⟩)
      go_ret2
      exact ⟨rfl, HB.out.trans (hb.mono HB.out.size)⟩
    | true =>
      rw [hI, if_pos rfl] at h
      rw [hI] at hiw0
      have hbits : 1 ≤ a1 ∧ a1 ≤ 6 := by
        unfold wordI at hI
        simp only [Bool.and_eq_true, decide_eq_true_eq] at hI
        exact hI.1
      obtain ⟨hb1, hb2⟩ := hbits
      have hcon := fun (V : World) (hV : Below W0.heap.size W0 V) =>
        anyIntL (fun x => !(valB a1 x)) 94 #[.pointer (some ⟨w.heap.size + 1, 0, none⟩)] (enters_of Try.func94 (by kernel_rfl) rfl) A2 l2 c2 V (Kd.C_below (Kd.C_below HR2.out HB.out) hV)
          (fun x W hb => wordValue_fn x a1 _ W hb1 hb2 ((hb.cell (World.block_lt_of_cell? V _ (HCL.out V hV).2.2.2)).trans (HCL.out V hV).2.2.2))
      clear hI
      unfold valsB at h
      generalize (l2.any fun n => !(valB a1 n)) = bad at h hcon
      have HCON := Aside0.mk hcon
      clear hcon
      have hne : ¬ a1 = 0 := by omega
      by_cases t2 : (l2.length : Int) = 12 / a1
      · rw [decide_eq_false (fun hn => hn t2), Bool.false_or] at h
        cases bad with
        | true =>
          obtain ⟨rfl, rfl⟩ : 0 = r1 ∧ 5 = r2 := by simpa using h
          clear h
          go_enter Try.func52, Try.ntmps52
          go_upto_region 3 with fail
          rw [HW0.out]
          obtain ⟨hx0, hx1, hx2, hx3⟩ := HX.out
          go_wp2_with (first | (go_at_call 63; refine hiw0.mono ?_; rintro e w1 ⟨rfl, hb⟩; obtain ⟨hy0, hy1, hy2, hy3⟩ := HCL.out w1 hb) | (go_at_call 93; refine (HCON.out w1 hb).mono ?_; rintro e w2 ⟨rfl, hbb⟩))
          go_ret2
          exact ⟨rfl, HB.out.trans ((hb.trans (hbb.mono hb.size)).mono HB.out.size)⟩
        | false =>
          obtain ⟨t, ht, hrr⟩ : ∃ t, impl_wordValue.f k a0_0 a0_1 l0_2 a1 l2 = some t ∧ (t, 0) = (r1, r2) := by
            cases hv : impl_wordValue.f k a0_0 a0_1 l0_2 a1 l2 with
            | none => rw [hv] at h; simp at h
            | some t => rw [hv] at h; exact ⟨t, rfl, by simpa using h⟩
          obtain ⟨rfl, rfl⟩ := Prod.mk.inj hrr
          have HV := Aside0.mk (fun (V : World) (hV : Below W0.heap.size W0 V) => impl_wordValue.calls k a0_0 a0_1 A0_2 c0_2 l0_2 a1 A2 c2 l2 t V (Kd.C_below (Kd.C_below HR.out HB.out) hV) HC.out (Kd.C_below (Kd.C_below HR2.out HB.out) hV) HC2.out ht)
          clear h ht hrr
          go_enter Try.func52, Try.ntmps52
          go_upto_region 3 with fail
          rw [HW0.out]
          obtain ⟨hx0, hx1, hx2, hx3⟩ := HX.out
          go_wp2_with (first | (go_at_call 63; refine hiw0.mono ?_; rintro e w1 ⟨rfl, hb⟩; obtain ⟨hy0, hy1, hy2, hy3⟩ := HCL.out w1 hb) | (go_at_call 93; refine (HCON.out w1 hb).mono ?_; rintro e w2 ⟨rfl, hbb⟩; have hb2 := hb.trans (hbb.mono hb.size); obtain ⟨hz0, hz1, hz2, hz3⟩ := HCL.out w2 hb2) | (go_at_call 95; refine (HV.out w2 hb2).mono ?_; rintro e w3 ⟨rfl, hb3⟩))
          go_ret2
          exact ⟨rfl, HB.out.trans ((hb2.trans (hb3.mono hb2.size)).mono HB.out.size)⟩
      · rw [decide_eq_true t2, Bool.true_or] at h
        obtain ⟨rfl, rfl⟩ : 0 = r1 ∧ 5 = r2 := by simpa using h
        clear h
        go_enter Try.func52, Try.ntmps52
        go_upto_region 3 with fail
        rw [HW0.out]
        obtain ⟨hx0, hx1, hx2, hx3⟩ := HX.out
        go_wp2_with (go_at_call 63; refine hiw0.mono ?_; rintro e w1 ⟨rfl, hb⟩; obtain ⟨hy0, hy1, hy2, hy3⟩ := HCL.out w1 hb)
        go_ret2
        exact ⟨rfl, HB.out.trans (hb.mono HB.out.size)⟩

/-! ### laws_eqIntS: function 53 -/
def laws_eqIntS.l0 : Nat → List Int → List Int → Int → Option (Bool)
  | 0, _, _, _ => none
  | k + 1, x0, x1, x5 => if x5 < (x0.length : Int) then (if 0 ≤ x5 then (if x5 < (x1.length : Int) then (if (rd x0 x5) = (rd x1 x5) then (laws_eqIntS.l0 k x0 x1 (wrap64 (x5 + 1))) else (some false)) else (none)) else (none)) else (some true)
def laws_eqIntS.f (k : Nat) (l0 : List Int) (l1 : List Int) : Option (Bool) := if (l0.length : Int) = (l1.length : Int) then (laws_eqIntS.l0 k l0 l1 0) else (some false)
theorem laws_eqIntS.mono_l : ∀ k, (∀ y0 y1 y2, LeO (laws_eqIntS.l0 k y0 y1 y2) (laws_eqIntS.l0 (k + 1) y0 y1 y2))
  | 0 => fun _ _ _ r h => by simp [laws_eqIntS.l0] at h
  | k + 1 => by
    have ih0 := laws_eqIntS.mono_l k
    · intro y0 y1 y2
      unfold laws_eqIntS.l0
      repeat' first
      | (with_reducible exact ih0 _ _ _)
      | (with_reducible exact LeO.refl _)
      | (with_reducible exact LeO.none _)
      | (with_reducible refine LeO.ite ?_ ?_)
      | (with_reducible refine LeO.bind ?_ (fun _ => ?_))
      | exact ih0 _ _ _
      | exact LeO.none _
      | refine LeO.ite ?_ ?_
      | refine LeO.bind ?_ (fun _ => ?_)
theorem laws_eqIntS.mono : ∀ a0 a1 k, LeO (laws_eqIntS.f k a0 a1) (laws_eqIntS.f (k + 1) a0 a1) := by
  intro a0 a1 k
  have ih0 := laws_eqIntS.mono_l k
  unfold laws_eqIntS.f
  repeat' first
      | (with_reducible exact ih0 _ _ _)
      | (with_reducible exact LeO.refl _)
      | (with_reducible exact LeO.none _)
      | (with_reducible refine LeO.ite ?_ ?_)
      | (with_reducible refine LeO.bind ?_ (fun _ => ?_))
      | exact ih0 _ _ _
      | exact LeO.none _
      | refine LeO.ite ?_ ?_
      | refine LeO.bind ?_ (fun _ => ?_)
set_option maxHeartbeats 8000000 in
set_option maxRecDepth 100000 in
theorem laws_eqIntS.calls (k : Nat) (A0 : Option Addr) (c0 : Nat) (l0 : List Int) (A1 : Option Addr) (c1 : Nat) (l1 : List Int) (r : Bool) (w : World) (hr0 : Kd.C (Kd.int .i64) w A0 l0.length l0) (hc0 : l0.length ≤ c0) (hr1 : Kd.C (Kd.int .i64) w A1 l1.length l1) (hc1 : l1.length ≤ c1) (h : laws_eqIntS.f k l0 l1 = some r) :
    Calls Try.prog 53 #[.slice A0 l0.length c0, .slice A1 l1.length c1] w fun e w' => e = .returned (.bool r) ∧ Drawn0 w w' := by
  have HR0 := Aside0.mk hr0
  have HC0 := Aside0.mk hc0
  clear hr0 hc0
  have HR1 := Aside0.mk hr1
  have HC1 := Aside0.mk hc1
  clear hr1 hc1
  have H : (if (l0.length : Int) = (l1.length : Int) then (laws_eqIntS.l0 k l0 l1 0) else (some false)) = some r := h
  clear h
  by_cases c3 : (l0.length : Int) = (l1.length : Int)
  · rw [if_pos c3] at H
    have c3b0 : ((l0.length : Int) == (l1.length : Int)) = true := beq_iff_eq.mpr c3
    have c3b1 : ((l0.length : Int) != (l1.length : Int)) = false := bne_eq_false_iff_eq.mpr c3
    have c3b2 : (l0.length == l1.length) = true := by first | simpa using c3 | (simp at c3 ⊢; omega)
    clear c3
    have H' := Aside0.mk H
    clear H
    go_enter Try.func53, Try.ntmps53
    go_wp2
    repeat (go_quiet (fail); try go_wp2)
    go_loopg [5] k (fun kq v5 w' => ∃ (x5_1 : Int), v5 = .int .i64 x5_1 ∧ Aside0 (laws_eqIntS.l0 kq l0 l1 x5_1 = some r) ∧ Aside0 (kq ≤ k) ∧ Drawn0 w w')
    case atStart => exact ⟨(0), (by first | rfl | (simp; done) | (simp [*]; done)), H', ⟨Nat.le_refl _⟩, by repeat (first | exact Drawn0.refl _ | apply Drawn0.step)⟩
    case round =>
      clear H'
      try clear c1
      try clear p2
      try clear c3
      try clear c3b0
      try clear c3b1
      try clear c3b2
      obtain ⟨x5_1, rfl, HA, HK1, ⟨m1, rfl⟩⟩ := hrel
      cases gk with
      | zero => exact absurd HA.out (by simp [laws_eqIntS.l0])
      | succ k1 =>
        have H := HA.out
        clear HA
        simp only [laws_eqIntS.l0] at H
        by_cases c4 : x5_1 < (l0.length : Int)
        · rw [if_pos c4] at H
          have c4b0 : decide (x5_1 < (l0.length : Int)) = true := decide_eq_true c4
          clear c4
          by_cases c5 : 0 ≤ x5_1
          · rw [if_pos c5] at H
            have c5b0 : decide (0 ≤ x5_1) = true := decide_eq_true c5
            clear c5
            by_cases c6 : x5_1 < (l1.length : Int)
            · rw [if_pos c6] at H
              have c6b0 : decide (x5_1 < (l1.length : Int)) = true := decide_eq_true c6
              clear c6
              by_cases c7 : (rd l0 x5_1) = (rd l1 x5_1)
              · rw [if_pos c7] at H
                have c7b0 : ((rd l0 x5_1) == (rd l1 x5_1)) = true := beq_iff_eq.mpr c7
                have c7b1 : ((rd l0 x5_1) != (rd l1 x5_1)) = false := bne_eq_false_iff_eq.mpr c7
                clear c7
                have H' := Aside0.mk H
                clear H
                have p162 : 0 ≤ (x5_1 : Int) := of_decide_eq_true (by first | (with_reducible assumption) | assumption)
                have q162 : x5_1 < (l0.length : Int) := of_decide_eq_true (by first | (with_reducible assumption) | assumption)
                obtain ⟨ad162, e162, hx162_0⟩ := Kd.at_int HR0.out x5_1 p162 q162
                cases e162
                replace p162 := eq_true p162
                replace q162 := eq_true q162
                have p163 : 0 ≤ (x5_1 : Int) := of_decide_eq_true (by first | (with_reducible assumption) | assumption)
                have q163 : x5_1 < (l1.length : Int) := of_decide_eq_true (by first | (with_reducible assumption) | assumption)
                obtain ⟨ad163, e163, hx163_0⟩ := Kd.at_int HR1.out x5_1 p163 q163
                cases e163
                replace p163 := eq_true p163
                replace q163 := eq_true q163
                go_wp2
                repeat (go_quiet (fail); try go_wp2)
                go_roundg k1
                case measure => have := HK1.out; omega
                case rel => exact ⟨(wrap64 (x5_1 + 1)), (by first | rfl | (simp; done) | (simp [*]; done)), H', ⟨by have := HK1.out; omega⟩, by repeat (first | exact Drawn0.refl _ | apply Drawn0.step)⟩
              · rw [if_neg c7] at H
                have c7b0 : ((rd l0 x5_1) == (rd l1 x5_1)) = false := beq_eq_false_iff_ne.mpr c7
                have c7b1 : ((rd l0 x5_1) != (rd l1 x5_1)) = true := bne_iff_ne.mpr c7
                obtain rfl := Option.some.inj H
                have p162 : 0 ≤ (x5_1 : Int) := of_decide_eq_true (by first | (with_reducible assumption) | assumption)
                have q162 : x5_1 < (l0.length : Int) := of_decide_eq_true (by first | (with_reducible assumption) | assumption)
                obtain ⟨ad162, e162, hx162_0⟩ := Kd.at_int HR0.out x5_1 p162 q162
                cases e162
                replace p162 := eq_true p162
                replace q162 := eq_true q162
                have p163 : 0 ≤ (x5_1 : Int) := of_decide_eq_true (by first | (with_reducible assumption) | assumption)
                have q163 : x5_1 < (l1.length : Int) := of_decide_eq_true (by first | (with_reducible assumption) | assumption)
                obtain ⟨ad163, e163, hx163_0⟩ := Kd.at_int HR1.out x5_1 p163 q163
                cases e163
                replace p163 := eq_true p163
                replace q163 := eq_true q163
                go_wp2
                repeat (go_quiet (fail); try go_wp2)
                go_ret
                exact ⟨by first | rfl | (simp; done) | (simp [*]; done), by repeat (first | exact Drawn0.refl _ | apply Drawn0.step)⟩
            · rw [if_neg c6] at H
              exact absurd H (by simp)
          · rw [if_neg c5] at H
            exact absurd H (by simp)
        · rw [if_neg c4] at H
          have c4b0 : decide (x5_1 < (l0.length : Int)) = false := decide_eq_false c4
          clear c4
          obtain rfl := Option.some.inj H
          go_wp2
          repeat (go_quiet (fail); try go_wp2)
          go_ret
          exact ⟨by first | rfl | (simp; done) | (simp [*]; done), by repeat (first | exact Drawn0.refl _ | apply Drawn0.step)⟩
  · rw [if_neg c3] at H
    have c3b0 : ((l0.length : Int) == (l1.length : Int)) = false := beq_eq_false_iff_ne.mpr c3
    have c3b1 : ((l0.length : Int) != (l1.length : Int)) = true := bne_iff_ne.mpr c3
    have c3b2 : (l0.length == l1.length) = false := by first | simpa using c3 | (simp at c3 ⊢; omega)
    obtain rfl := Option.some.inj H
    go_enter Try.func53, Try.ntmps53
    go_wp2
    repeat (go_quiet (fail); try go_wp2)
    go_ret
    exact ⟨by first | rfl | (simp; done) | (simp [*]; done), by repeat (first | exact Drawn0.refl _ | apply Drawn0.step)⟩

end Go.Proofs.Ytdmeonkkbihbhaa.PFnExactWordValue
