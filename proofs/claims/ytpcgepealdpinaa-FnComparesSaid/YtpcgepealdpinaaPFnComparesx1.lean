/- WRITTEN BY A PROGRAM OF THIS SESSION (wip/xprint) OVER THE KIT's PRINT, FOR THIS CLAIM: for Go functions that the law reaches, one Lean function each and the proof that Go's call comes to its answer. No conditions but those that each theorem names. -/
import Derived.Test.YtpcgepealdpinaaPFnComparesx0
namespace Go.Proofs.Ytpcgepealdpinaa.PFnCompares
open Go.RowKit Go.Proofs.YtpcgepealdpinaaW.PrintWords Go.Proofs.YtpcgepealdpinaaW.PrintLast Go.Proofs.YtpcgepealdpinaaW.PrintMore
attribute [local go_sem] max2_int min2_int max_two min_two max_three min_three max_four min_four   -- for this text's walks alone
set_option linter.unusedVariables false
set_option linter.unusedSimpArgs false

/-! ### laws_at: function 4 -/
def laws_at.f (l0 : List Int) (a1 : Int) (a2 : Int) : Option (Int) := if a2 ≤ 1 then (some 0) else (if (l0.length : Int) = 0 then (if a2 = 0 then (none) else (some (Int.tmod (wrap64 (a1 * 7)) a2))) else (if 0 ≤ (Int.tmod a1 (l0.length : Int)) then (if (Int.tmod a1 (l0.length : Int)) < (l0.length : Int) then (if 0 ≤ (Int.tmod (wrap64 (a1 + 1)) (l0.length : Int)) then (if (Int.tmod (wrap64 (a1 + 1)) (l0.length : Int)) < (l0.length : Int) then (if a2 = 0 then (none) else (some (Int.tmod (wrap64 ((wrap64 ((wrap64 ((wrap64 (rd l0 (Int.tmod a1 (l0.length : Int)))) * 31)) + (wrap64 (rd l0 (Int.tmod (wrap64 (a1 + 1)) (l0.length : Int)))))) + (wrap64 (Int.tdiv a1 (l0.length : Int))))) a2))) else (none)) else (none)) else (none)) else (none)))
set_option maxHeartbeats 8000000 in
set_option maxRecDepth 100000 in
theorem laws_at.calls (A0 : Option Addr) (c0 : Nat) (l0 : List Int) (a1 : Int) (a2 : Int) (r : Int) (w : World) (hr0 : Kd.C (Kd.int .u8) w A0 l0.length l0) (hc0 : l0.length ≤ c0) (h : laws_at.f l0 a1 a2 = some r) :
    Calls Try.prog 4 #[.slice A0 l0.length c0, .int .i64 a1, .int .i64 a2] w fun e w' => e = .returned (.int .i64 r) ∧ Drawn0 w w' := by
  have HR0 := Aside0.mk hr0
  have HC0 := Aside0.mk hc0
  clear hr0 hc0
  have H : (if a2 ≤ 1 then (some 0) else (if (l0.length : Int) = 0 then (if a2 = 0 then (none) else (some (Int.tmod (wrap64 (a1 * 7)) a2))) else (if 0 ≤ (Int.tmod a1 (l0.length : Int)) then (if (Int.tmod a1 (l0.length : Int)) < (l0.length : Int) then (if 0 ≤ (Int.tmod (wrap64 (a1 + 1)) (l0.length : Int)) then (if (Int.tmod (wrap64 (a1 + 1)) (l0.length : Int)) < (l0.length : Int) then (if a2 = 0 then (none) else (some (Int.tmod (wrap64 ((wrap64 ((wrap64 ((wrap64 (rd l0 (Int.tmod a1 (l0.length : Int)))) * 31)) + (wrap64 (rd l0 (Int.tmod (wrap64 (a1 + 1)) (l0.length : Int)))))) + (wrap64 (Int.tdiv a1 (l0.length : Int))))) a2))) else (none)) else (none)) else (none)) else (none)))) = some r := h
  clear h
  by_cases c4 : a2 ≤ 1
  · rw [if_pos c4] at H
    have c4b0 : decide (a2 ≤ 1) = true := decide_eq_true c4
    clear c4
    obtain rfl := Option.some.inj H
    go_enter Try.func4, Try.ntmps4
    go_wp2
    repeat (go_quiet (fail); try go_wp2)
    go_ret
    exact ⟨by first | rfl | (simp; done) | (simp [*]; done), by repeat (first | exact Drawn0.refl _ | apply Drawn0.step)⟩
  · rw [if_neg c4] at H
    have c4b0 : decide (a2 ≤ 1) = false := decide_eq_false c4
    clear c4
    by_cases c5 : (l0.length : Int) = 0
    · rw [if_pos c5] at H
      have c5b0 : ((l0.length : Int) == 0) = true := beq_iff_eq.mpr c5
      have c5b1 : ((l0.length : Int) != 0) = false := bne_eq_false_iff_eq.mpr c5
      clear c5
      by_cases c6 : a2 = 0
      · rw [if_pos c6] at H
        exact absurd H (by simp)
      · rw [if_neg c6] at H
        have c6b0 : (a2 == 0) = false := beq_eq_false_iff_ne.mpr c6
        have c6b1 : (a2 != 0) = true := bne_iff_ne.mpr c6
        obtain rfl := Option.some.inj H
        go_enter Try.func4, Try.ntmps4
        go_wp2
        repeat (go_quiet (fail); try go_wp2)
        go_ret
        exact ⟨by first | rfl | (simp; done) | (simp [*]; done), by repeat (first | exact Drawn0.refl _ | apply Drawn0.step)⟩
    · rw [if_neg c5] at H
      have c5b0 : ((l0.length : Int) == 0) = false := beq_eq_false_iff_ne.mpr c5
      have c5b1 : ((l0.length : Int) != 0) = true := bne_iff_ne.mpr c5
      have c5b2 : ¬ (l0 = []) := fun h_ => c5 (by rw [h_]; rfl)
      obtain ⟨ji7, hji7⟩ : ∃ j_ : Int, (Int.tmod a1 (l0.length : Int)) = j_ := ⟨_, rfl⟩
      replace H : (if 0 ≤ (ji7) then (if (ji7) < (l0.length : Int) then (if 0 ≤ (Int.tmod (wrap64 (a1 + 1)) (l0.length : Int)) then (if (Int.tmod (wrap64 (a1 + 1)) (l0.length : Int)) < (l0.length : Int) then (if a2 = 0 then (none) else (some (Int.tmod (wrap64 ((wrap64 ((wrap64 ((wrap64 (rd l0 (ji7))) * 31)) + (wrap64 (rd l0 (Int.tmod (wrap64 (a1 + 1)) (l0.length : Int)))))) + (wrap64 (Int.tdiv a1 (l0.length : Int))))) a2))) else (none)) else (none)) else (none)) else (none)) = some r := by first | (rw [hji7] at H; exact H) | (simp only [hji7] at H ⊢; exact H)
      by_cases c8 : 0 ≤ (ji7)
      · rw [if_pos c8] at H
        have c8b0 : decide (0 ≤ (ji7)) = true := decide_eq_true c8
        clear c8
        by_cases c9 : (ji7) < (l0.length : Int)
        · rw [if_pos c9] at H
          have c9b0 : decide ((ji7) < (l0.length : Int)) = true := decide_eq_true c9
          clear c9
          obtain ⟨ji10, hji10⟩ : ∃ j_ : Int, (Int.tmod (wrap64 (a1 + 1)) (l0.length : Int)) = j_ := ⟨_, rfl⟩
          replace H : (if 0 ≤ (ji10) then (if (ji10) < (l0.length : Int) then (if a2 = 0 then (none) else (some (Int.tmod (wrap64 ((wrap64 ((wrap64 ((wrap64 (rd l0 (ji7))) * 31)) + (wrap64 (rd l0 (ji10))))) + (wrap64 (Int.tdiv a1 (l0.length : Int))))) a2))) else (none)) else (none)) = some r := by first | (rw [hji10] at H; exact H) | (simp only [hji10] at H ⊢; exact H)
          by_cases c11 : 0 ≤ (ji10)
          · rw [if_pos c11] at H
            have c11b0 : decide (0 ≤ (ji10)) = true := decide_eq_true c11
            clear c11
            by_cases c12 : (ji10) < (l0.length : Int)
            · rw [if_pos c12] at H
              have c12b0 : decide ((ji10) < (l0.length : Int)) = true := decide_eq_true c12
              clear c12
              by_cases c13 : a2 = 0
              · rw [if_pos c13] at H
                exact absurd H (by simp)
              · rw [if_neg c13] at H
                have c13b0 : (a2 == 0) = false := beq_eq_false_iff_ne.mpr c13
                have c13b1 : (a2 != 0) = true := bne_iff_ne.mpr c13
                obtain rfl := Option.some.inj H
                have p101 : 0 ≤ ((ji7) : Int) := of_decide_eq_true (by first | (with_reducible assumption) | assumption)
                have q101 : (ji7) < (l0.length : Int) := of_decide_eq_true (by first | (with_reducible assumption) | assumption)
                obtain ⟨ad101, e101, hx101_0⟩ := Kd.at_int HR0.out (ji7) p101 q101
                cases e101
                replace p101 := eq_true p101
                replace q101 := eq_true q101
                have p102 : 0 ≤ ((ji10) : Int) := of_decide_eq_true (by first | (with_reducible assumption) | assumption)
                have q102 : (ji10) < (l0.length : Int) := of_decide_eq_true (by first | (with_reducible assumption) | assumption)
                obtain ⟨ad102, e102, hx102_0⟩ := Kd.at_int HR0.out (ji10) p102 q102
                obtain rfl : ad101 = ad102 := (by injection e102)
                replace p102 := eq_true p102
                replace q102 := eq_true q102
                go_enter Try.func4, Try.ntmps4
                go_wp2
                repeat (go_quiet (fail); try go_wp2)
                go_ret
                exact ⟨by first | rfl | (simp; done) | (simp only [← hji7, ← hji10] <;> (first | rfl | simp)) | (simp [*]; done), by repeat (first | exact Drawn0.refl _ | apply Drawn0.step)⟩
            · rw [if_neg c12] at H
              exact absurd H (by simp)
          · rw [if_neg c11] at H
            exact absurd H (by simp)
        · rw [if_neg c9] at H
          exact absurd H (by simp)
      · rw [if_neg c8] at H
        exact absurd H (by simp)

/-! ### impl_within: function 18 -/
def impl_within.f (a0 : Int) (a1 : Int) (a2 : Int) : Option (Bool) := if a0 ≥ a1 then (some (decide (a0 ≤ a2))) else (some false)
set_option maxHeartbeats 8000000 in
set_option maxRecDepth 100000 in
theorem impl_within.calls (a0 : Int) (a1 : Int) (a2 : Int) (r : Bool) (w : World) (h : impl_within.f a0 a1 a2 = some r) :
    Calls Try.prog 18 #[.int .i64 a0, .int .i64 a1, .int .i64 a2] w fun e w' => e = .returned (.bool r) ∧ Drawn0 w w' := by
  have H : (if a0 ≥ a1 then (some (decide (a0 ≤ a2))) else (some false)) = some r := h
  clear h
  by_cases c4 : a0 ≥ a1
  · rw [if_pos c4] at H
    have c4b0 : decide (a1 ≤ a0) = true := decide_eq_true c4
    clear c4
    obtain rfl := Option.some.inj H
    go_enter Try.func18, Try.ntmps18
    go_wp2
    go_ret
    exact ⟨by first | rfl | (simp; done) | (simp [*]; done), by repeat (first | exact Drawn0.refl _ | apply Drawn0.step)⟩
  · rw [if_neg c4] at H
    have c4b0 : decide (a1 ≤ a0) = false := decide_eq_false c4
    clear c4
    obtain rfl := Option.some.inj H
    go_enter Try.func18, Try.ntmps18
    go_wp2
    go_ret
    exact ⟨by first | rfl | (simp; done) | (simp [*]; done), by repeat (first | exact Drawn0.refl _ | apply Drawn0.step)⟩

-- NOT PRINTED: function 27 (impl_Ex_27)

/-! ### impl_Ex_23: function 23 -/
set_option maxHeartbeats 4000000 in
set_option maxRecDepth 100000 in
/-- slices.IndexFunc over a row of structs, with a predicate that may change what the invariant allows. -/
theorem idx27 (I : Nat → World → Prop) (p : Nat → Bool) (l : List (S27)) (g : Nat) (lb : Array Value) (eg : ∀ args w, (callFunc g args).run Try.prog w = .ok (.enter g args) w) (A : Option Addr) (c : Nat) (w : World) (hn : l.length ≤ 9223372036854775807) (h0 : I 0 w)
    (w0 : World) (hd : Kd.C k27 w0 A l.length l) (hB : ∀ i W, I i W → Below w0.heap.size w0 W)
    (hp : ∀ i, i < l.length → (∀ j, j < i → p j = false) → ∀ W, I i W → ∀ A2 c2, Kd.C k27 w0 A2 (rd_T27 l (i : Int)).f2.length (rd_T27 l (i : Int)).f2 → (rd_T27 l (i : Int)).f2.length ≤ c2 →
      Calls Try.prog g (#[.agg #[.int .i64 (rd_T27 l (i : Int)).f0, .int .i64 (rd_T27 l (i : Int)).f1, .slice A2 (rd_T27 l (i : Int)).f2.length c2]] ++ lb) W fun e W' => e = .returned (.bool (p i)) ∧ I (i + 1) W') :
    Calls Try.prog 27 #[.slice A l.length c, .func (.func g) #[] lb] w fun e w' => ∃ r : Int, e = .returned (.int .i64 r) ∧ ∃ m, m ≤ l.length ∧ I m w' ∧ ((r = -1 ∧ m = l.length ∧ ∀ j, j < m → p j = false) ∨ (0 ≤ r ∧ ∃ i, m = i + 1 ∧ p i = true ∧ ∀ j, j < i → p j = false)) := by
  have HP := Aside0.mk hp
  have HC := Aside0.mk hB
  have HD := Aside0.mk hd
  have H0 := Aside0.mk h0
  clear hp hB hd h0
  go_enter Try.func27, Try.ntmps27
  go_wp2
  go_loopg [5, 8] l.length (fun gg _ s8 wr => ∃ kk : Nat, kk ≤ l.length ∧ l.length - kk ≤ gg ∧ s8 = .int .i64 kk ∧ Aside0 (I kk wr) ∧ Aside0 (∀ j, j < kk → p j = false))
  case atStart => exact ⟨0, Nat.zero_le _, by omega, rfl, H0, ⟨fun j hj => absurd hj (Nat.not_lt_zero _)⟩⟩
  case round =>
    obtain ⟨kk, hkk, hg, rfl, HI, HN⟩ := hrel
    by_cases hlt : kk < l.length
    · have hltz : (kk : Int) < (l.length : Int) := by omega
      obtain ⟨ad, A2, c2, ea, hx0, hx1, hx2, hl2, hC2⟩ := at_T27 HD.out (kk : Int) (by omega) (by omega)
      cases ea
      rw [Int.toNat_natCast] at hx0 hx1 hx2
      replace hx0 := ((HC.out kk wr HI.out).cell (World.block_lt_of_cell? w0 _ hx0)).trans hx0
      replace hx1 := ((HC.out kk wr HI.out).cell (World.block_lt_of_cell? w0 _ hx1)).trans hx1
      replace hx2 := ((HC.out kk wr HI.out).cell (World.block_lt_of_cell? w0 _ hx2)).trans hx2
      have hcall := HP.out kk hlt HN.out wr HI.out A2 c2 hC2 hl2
      have HP2 := Aside0.mk hC2
      clear hC2 hl2
      cases hq : p kk with
      | true =>
        rw [hq] at hcall
        have HQ := Aside0.mk hq
        clear hq
        go_wp2_with (go_at_fn g; refine hcall.mono ?_; rintro e w' ⟨rfl, hb⟩)
        go_ret
        exact ⟨kk, rfl, kk + 1, by omega, hb, .inr ⟨by omega, kk, rfl, HQ.out, HN.out⟩⟩
      | false =>
        rw [hq] at hcall
        have HQ := Aside0.mk hq
        clear hq
        go_wp2_with (go_at_fn g; refine hcall.mono ?_; rintro e w' ⟨rfl, hb⟩)
        go_roundg (l.length - (kk + 1))
        case measure => omega
        case rel =>
          refine ⟨kk + 1, by omega, by omega, by go_num, ⟨hb⟩, ⟨fun j hj => ?_⟩⟩
          by_cases e : j = kk
          · subst e
            exact HQ.out
          · exact HN.out j (by omega)
    · have hltz : ¬ (kk : Int) < (l.length : Int) := by omega
      have : kk = l.length := by omega
      subst this
      go_wp2
      go_ret
      exact ⟨-1, rfl, l.length, Nat.le_refl _, HI.out, .inl ⟨rfl, rfl, HN.out⟩⟩
set_option maxHeartbeats 4000000 in
theorem any27 (I : Nat → World → Prop) (p : Nat → Bool) (l : List (S27)) (g : Nat) (lb : Array Value) (eg : ∀ args w, (callFunc g args).run Try.prog w = .ok (.enter g args) w) (A : Option Addr) (c : Nat) (w : World) (hn : l.length ≤ 9223372036854775807) (h0 : I 0 w)
    (w0 : World) (hd : Kd.C k27 w0 A l.length l) (hB : ∀ i W, I i W → Below w0.heap.size w0 W)
    (hp : ∀ i, i < l.length → (∀ j, j < i → p j = false) → ∀ W, I i W → ∀ A2 c2, Kd.C k27 w0 A2 (rd_T27 l (i : Int)).f2.length (rd_T27 l (i : Int)).f2 → (rd_T27 l (i : Int)).f2.length ≤ c2 →
      Calls Try.prog g (#[.agg #[.int .i64 (rd_T27 l (i : Int)).f0, .int .i64 (rd_T27 l (i : Int)).f1, .slice A2 (rd_T27 l (i : Int)).f2.length c2]] ++ lb) W fun e W' => e = .returned (.bool (p i)) ∧ I (i + 1) W') :
    Calls Try.prog 23 #[.slice A l.length c, .func (.func g) #[] lb] w fun e w' => ∃ b : Bool, e = .returned (.bool b) ∧ ∃ m, m ≤ l.length ∧ I m w' ∧ ((b = false ∧ m = l.length ∧ ∀ j, j < m → p j = false) ∨ (b = true ∧ ∃ i, m = i + 1 ∧ p i = true ∧ ∀ j, j < i → p j = false)) := by
  have hcall := idx27 I p l g lb eg A c w hn h0 w0 hd hB hp
  clear hp hB hd h0
  go_enter Try.func23, Try.ntmps23
  go_wp2_with (go_at_call 27; refine hcall.mono ?_; rintro e w' ⟨r, rfl, hr⟩)
  go_ret
  obtain ⟨m, hm, hI, h⟩ := hr
  refine ⟨_, rfl, m, hm, hI, ?_⟩
  rcases h with ⟨rfl, h⟩ | ⟨h0, h⟩
  · exact .inl ⟨by first | rfl | simp, h⟩
  · exact .inr ⟨by first | exact decide_eq_true h0 | (simp; omega), h⟩

/-! ### impl_kidsOf: function 25 -/
mutual
def impl_kidsOf.j0 : Nat → Int → Bool → Option (Int)
  | 0, _, _ => none
  | k + 1, x3, x4 => if x4 = true then (some 0) else (if x3 = 3 then (some 1) else (if x3 = 4 then (impl_kidsOf.j1 k x3 (x3 == 4)) else (if x3 = 5 then (impl_kidsOf.j1 k x3 (x3 == 5)) else (impl_kidsOf.j1 k x3 (x3 == 6)))))
def impl_kidsOf.j1 : Nat → Int → Bool → Option (Int)
  | 0, _, _ => none
  | k + 1, x3, x9 => if x9 = true then (some 2) else (if x3 = 7 then (some 3) else (some (-1)))
end
def impl_kidsOf.f (k : Nat) (a0 : Int) : Option (Int) := if a0 = 1 then (impl_kidsOf.j0 k a0 (a0 == 1)) else (impl_kidsOf.j0 k a0 (a0 == 2))
theorem impl_kidsOf.mono_l : ∀ k, (∀ y0 y1, LeO (impl_kidsOf.j0 k y0 y1) (impl_kidsOf.j0 (k + 1) y0 y1)) ∧ (∀ y0 y1, LeO (impl_kidsOf.j1 k y0 y1) (impl_kidsOf.j1 (k + 1) y0 y1))
  | 0 => ⟨fun _ _ r h => by simp [impl_kidsOf.j0] at h, fun _ _ r h => by simp [impl_kidsOf.j1] at h⟩
  | k + 1 => by
    obtain ⟨ih0, ih1⟩ := impl_kidsOf.mono_l k
    refine ⟨?_, ?_⟩
    · intro y0 y1
      unfold impl_kidsOf.j0
      repeat' first
      | (with_reducible exact ih0 _ _)
      | (with_reducible exact ih1 _ _)
      | (with_reducible exact LeO.refl _)
      | (with_reducible exact LeO.none _)
      | (with_reducible refine LeO.ite ?_ ?_)
      | (with_reducible refine LeO.bind ?_ (fun _ => ?_))
      | exact ih0 _ _
      | exact ih1 _ _
      | exact LeO.none _
      | refine LeO.ite ?_ ?_
      | refine LeO.bind ?_ (fun _ => ?_)
    · intro y0 y1
      unfold impl_kidsOf.j1
      repeat' first
      | (with_reducible exact ih0 _ _)
      | (with_reducible exact ih1 _ _)
      | (with_reducible exact LeO.refl _)
      | (with_reducible exact LeO.none _)
      | (with_reducible refine LeO.ite ?_ ?_)
      | (with_reducible refine LeO.bind ?_ (fun _ => ?_))
      | exact ih0 _ _
      | exact ih1 _ _
      | exact LeO.none _
      | refine LeO.ite ?_ ?_
      | refine LeO.bind ?_ (fun _ => ?_)
theorem impl_kidsOf.mono : ∀ a0 k, LeO (impl_kidsOf.f k a0) (impl_kidsOf.f (k + 1) a0) := by
  intro a0 k
  obtain ⟨ih0, ih1⟩ := impl_kidsOf.mono_l k
  unfold impl_kidsOf.f
  repeat' first
      | (with_reducible exact ih0 _ _)
      | (with_reducible exact ih1 _ _)
      | (with_reducible exact LeO.refl _)
      | (with_reducible exact LeO.none _)
      | (with_reducible refine LeO.ite ?_ ?_)
      | (with_reducible refine LeO.bind ?_ (fun _ => ?_))
      | exact ih0 _ _
      | exact ih1 _ _
      | exact LeO.none _
      | refine LeO.ite ?_ ?_
      | refine LeO.bind ?_ (fun _ => ?_)
set_option maxHeartbeats 8000000 in
set_option maxRecDepth 100000 in
theorem impl_kidsOf.calls (k : Nat) (a0 : Int) (r : Int) (w : World) (h : impl_kidsOf.f k a0 = some r) :
    Calls Try.prog 25 #[.int .i64 a0] w fun e w' => e = .returned (.int .i64 r) ∧ Drawn0 w w' := by
  have H : (if a0 = 1 then (impl_kidsOf.j0 k a0 (a0 == 1)) else (impl_kidsOf.j0 k a0 (a0 == 2))) = some r := h
  clear h
  have HC2 := Aside0.mk H
  clear H
  go_enter Try.func25, Try.ntmps25
  go_upto_if 4 with (fail)
  go_cut [4] (fun v4 wc => ∃ (kq : Nat) (x4_1 : Bool), v4 = .bool x4_1 ∧ Aside0 (impl_kidsOf.j0 kq a0 x4_1 = some r) ∧ Aside0 (kq ≤ k) ∧ Drawn0 w wc)
  case first =>
    have H := HC2.out
    clear HC2
    by_cases c3 : a0 = 1
    · rw [if_pos c3] at H
      have c3b0 : (a0 == 1) = true := beq_iff_eq.mpr c3
      have c3b1 : (a0 != 1) = false := bne_eq_false_iff_eq.mpr c3
      clear c3
      (first | rw [c3b0] | (simp only [i64_w, i32_w]; rw [c3b0]) | skip)
      have H' := Aside0.mk H
      clear H
      go_wp2
      go_meet
      case rel => exact ⟨_, ((a0 == 1)), (by first | rfl | (simp; done) | (simp [*]; done)), H', ⟨by first | omega | exact Nat.le_refl _⟩, by repeat (first | exact Drawn0.refl _ | apply Drawn0.step)⟩
    · rw [if_neg c3] at H
      have c3b0 : (a0 == 1) = false := beq_eq_false_iff_ne.mpr c3
      have c3b1 : (a0 != 1) = true := bne_iff_ne.mpr c3
      (first | rw [c3b0] | (simp only [i64_w, i32_w]; rw [c3b0]) | skip)
      have H' := Aside0.mk H
      clear H
      go_wp2
      go_meet
      case rel => exact ⟨_, ((a0 == 2)), (by first | rfl | (simp; done) | (simp [*]; done)), H', ⟨by first | omega | exact Nat.le_refl _⟩, by repeat (first | exact Drawn0.refl _ | apply Drawn0.step)⟩
  case rest =>
    clear HC2
    try clear c2
    try clear p2
    try clear c3
    try clear c3b0
    try clear c3b1
    obtain ⟨kq, x4_1, rfl, HA, HJ1, ⟨mc1, rfl⟩⟩ := hcut
    cases kq with
    | zero => exact absurd HA.out (by simp [impl_kidsOf.j0])
    | succ kj1 =>
      have H := HA.out
      clear HA
      simp only [impl_kidsOf.j0] at H
      by_cases c4 : x4_1 = true
      · subst c4
        have H1 : (some 0) = some r := by rw [if_pos rfl] at H; exact H
        clear H
        have H := H1
        clear H1
        obtain rfl := Option.some.inj H
        go_wp2
        go_ret
        exact ⟨by first | rfl | (simp; done) | (simp [*]; done), by repeat (first | exact Drawn0.refl _ | apply Drawn0.step)⟩
      · replace c4 := Bool.eq_false_iff.mpr c4
        subst c4
        have H1 : (if a0 = 3 then (some 1) else (if a0 = 4 then (impl_kidsOf.j1 kj1 a0 (a0 == 4)) else (if a0 = 5 then (impl_kidsOf.j1 kj1 a0 (a0 == 5)) else (impl_kidsOf.j1 kj1 a0 (a0 == 6))))) = some r := by rw [if_neg (show ¬ (false = true) by decide)] at H; exact H
        clear H
        have H := H1
        clear H1
        by_cases c5 : a0 = 3
        · rw [if_pos c5] at H
          have c5b0 : (a0 == 3) = true := beq_iff_eq.mpr c5
          have c5b1 : (a0 != 3) = false := bne_eq_false_iff_eq.mpr c5
          clear c5
          obtain rfl := Option.some.inj H
          go_wp2
          go_ret
          exact ⟨by first | rfl | (simp; done) | (simp [*]; done), by repeat (first | exact Drawn0.refl _ | apply Drawn0.step)⟩
        · rw [if_neg c5] at H
          have c5b0 : (a0 == 3) = false := beq_eq_false_iff_ne.mpr c5
          have c5b1 : (a0 != 3) = true := bne_iff_ne.mpr c5
          have HC6 := Aside0.mk H
          clear H
          go_upto_if 9 with (fail)
          go_cut [9] (fun v9 wc => ∃ (kq : Nat) (x9_5 : Bool), v9 = .bool x9_5 ∧ Aside0 (impl_kidsOf.j1 kq a0 x9_5 = some r) ∧ Aside0 (kq ≤ kj1) ∧ Drawn0 w wc)
          case first =>
            have H := HC6.out
            clear HC6
            by_cases c7 : a0 = 4
            · rw [if_pos c7] at H
              have c7b0 : (a0 == 4) = true := beq_iff_eq.mpr c7
              have c7b1 : (a0 != 4) = false := bne_eq_false_iff_eq.mpr c7
              clear c7
              (first | rw [c7b0] | (simp only [i64_w, i32_w]; rw [c7b0]) | skip)
              have H' := Aside0.mk H
              clear H
              go_wp2
              go_meet
              case rel => exact ⟨_, ((a0 == 4)), (by first | rfl | (simp; done) | (simp [*]; done)), H', ⟨by have := HJ1.out; first | omega | exact Nat.le_refl _⟩, by repeat (first | exact Drawn0.refl _ | apply Drawn0.step)⟩
            · rw [if_neg c7] at H
              have c7b0 : (a0 == 4) = false := beq_eq_false_iff_ne.mpr c7
              have c7b1 : (a0 != 4) = true := bne_iff_ne.mpr c7
              (first | rw [c7b0] | (simp only [i64_w, i32_w]; rw [c7b0]) | skip)
              by_cases c8 : a0 = 5
              · rw [if_pos c8] at H
                have c8b0 : (a0 == 5) = true := beq_iff_eq.mpr c8
                have c8b1 : (a0 != 5) = false := bne_eq_false_iff_eq.mpr c8
                clear c8
                have H' := Aside0.mk H
                clear H
                go_wp2
                go_meet
                case rel => exact ⟨_, ((a0 == 5)), (by first | rfl | (simp; done) | (simp [*]; done)), H', ⟨by have := HJ1.out; first | omega | exact Nat.le_refl _⟩, by repeat (first | exact Drawn0.refl _ | apply Drawn0.step)⟩
              · rw [if_neg c8] at H
                have c8b0 : (a0 == 5) = false := beq_eq_false_iff_ne.mpr c8
                have c8b1 : (a0 != 5) = true := bne_iff_ne.mpr c8
                have H' := Aside0.mk H
                clear H
                go_wp2
                go_meet
                case rel => exact ⟨_, ((a0 == 6)), (by first | rfl | (simp; done) | (simp [*]; done)), H', ⟨by have := HJ1.out; first | omega | exact Nat.le_refl _⟩, by repeat (first | exact Drawn0.refl _ | apply Drawn0.step)⟩
          case rest =>
            clear HC6
            try clear c1
            try clear c2
            try clear p2
            try clear c3
            try clear c3b0
            try clear c3b1
            try clear c4
            try clear c5
            try clear c5b0
            try clear c5b1
            try clear c7
            try clear c7b0
            try clear c7b1
            try clear c8
            try clear c8b0
            try clear c8b1
            try clear p2
            obtain ⟨kq, x9_5, rfl, HA, HJ5, ⟨mc5, rfl⟩⟩ := hcut
            cases kq with
            | zero => exact absurd HA.out (by simp [impl_kidsOf.j1])
            | succ kj5 =>
              have H := HA.out
              clear HA
              simp only [impl_kidsOf.j1] at H
              by_cases c9 : x9_5 = true
              · subst c9
                have H1 : (some 2) = some r := by rw [if_pos rfl] at H; exact H
                clear H
                have H := H1
                clear H1
                obtain rfl := Option.some.inj H
                go_wp2
                go_ret
                exact ⟨by first | rfl | (simp; done) | (simp [*]; done), by repeat (first | exact Drawn0.refl _ | apply Drawn0.step)⟩
              · replace c9 := Bool.eq_false_iff.mpr c9
                subst c9
                have H1 : (if a0 = 7 then (some 3) else (some (-1))) = some r := by rw [if_neg (show ¬ (false = true) by decide)] at H; exact H
                clear H
                have H := H1
                clear H1
                by_cases c10 : a0 = 7
                · rw [if_pos c10] at H
                  have c10b0 : (a0 == 7) = true := beq_iff_eq.mpr c10
                  have c10b1 : (a0 != 7) = false := bne_eq_false_iff_eq.mpr c10
                  clear c10
                  obtain rfl := Option.some.inj H
                  go_wp2
                  go_ret
                  exact ⟨by first | rfl | (simp; done) | (simp [*]; done), by repeat (first | exact Drawn0.refl _ | apply Drawn0.step)⟩
                · rw [if_neg c10] at H
                  have c10b0 : (a0 == 7) = false := beq_eq_false_iff_ne.mpr c10
                  have c10b1 : (a0 != 7) = true := bne_iff_ne.mpr c10
                  obtain rfl := Option.some.inj H
                  go_wp2
                  go_ret
                  exact ⟨by first | rfl | (simp; done) | (simp [*]; done), by repeat (first | exact Drawn0.refl _ | apply Drawn0.step)⟩

/-! ### impl_countEx: function 22 -/
/-! a counter behind a pointer: block g holds it; what else was there lies as it lay -/
structure CE (g : Nat) (c : Int) (w w' : World) : Prop where
  os : w'.os = w.os
  tape : w'.tape = w.tape
  output : w'.output = w.output
  size : w.heap.size ≤ w'.heap.size
  block : ∀ k, k < w.heap.size → k ≠ g → w'.heap[k]? = w.heap[k]?
  cnt : w'.heap[g]? = some (.cells #[.int .i64 c] 3 (0, 0))
theorem CE.refl {g : Nat} {c : Int} {w : World} (h : w.heap[g]? = some (.cells #[.int .i64 c] 3 (0, 0))) : CE g c w w := ⟨rfl, rfl, rfl, Nat.le_refl _, fun _ _ _ => rfl, h⟩
theorem CE.trans {g : Nat} {c c1 : Int} {w w1 w2 : World} (h : CE g c w w1) (k : CE g c1 w1 w2) : CE g c1 w w2 :=
  ⟨k.os.trans h.os, k.tape.trans h.tape, k.output.trans h.output, Nat.le_trans h.size k.size, fun i hi hg => (k.block i (Nat.lt_of_lt_of_le hi h.size) hg).trans (h.block i hi hg), k.cnt⟩
theorem CE.lt {g : Nat} {c : Int} {w w' : World} (h : CE g c w w') : g < w'.heap.size := (Array.getElem?_eq_some_iff.1 h.cnt).1
theorem CE.below {g : Nat} {c : Int} {w w1 w2 : World} (h : CE g c w w1) (k : Below w1.heap.size w1 w2) : CE g c w w2 :=
  ⟨k.os.trans h.os, k.tape.trans h.tape, k.output.trans h.output, Nat.le_trans h.size k.size, fun i hi hg => (k.block i (Nat.lt_of_lt_of_le hi h.size)).trans (h.block i hi hg), (k.block g h.lt).trans h.cnt⟩
theorem CE.cell {g : Nat} {c : Int} {w w' : World} (h : CE g c w w') {k o : Nat} (hk : k < w.heap.size) (hg : k ≠ g) : w'.cell? ⟨k, o, none⟩ = w.cell? ⟨k, o, none⟩ := World.cell?_of_block (w := w) (h.block k hk hg)
theorem CE.val {g : Nat} {c : Int} {w w' : World} (h : CE g c w w') : w'.cell? ⟨g, 0, none⟩ = some (.int .i64 c) := (blk_cell h.cnt 0).trans rfl
theorem CE.free {g : Nat} {c : Int} {w w' : World} (h : CE g c w w') : w'.frozen? ⟨g, 0, none⟩ = false := blk_frozen h.cnt 0
theorem CE.set {g : Nat} {c c1 : Int} {w w' : World} (h : CE g c w w') : CE g c1 w (w'.setCell ⟨g, 0, none⟩ (.int .i64 c1)) :=
  ⟨h.os, h.tape, h.output, by simpa [World.setCell] using h.size, fun i hi hg => (Below.heap_setCell w' ⟨g, 0, none⟩ _ i hg).trans (h.block i hi hg), by
    have := h.cnt
    simp only [World.setCell, Array.getElem?_modify, if_true, this]
    rfl⟩
/-- A row that is read lies as it lay, where its blocks are old and none is the counter. -/
theorem within_anyE (a lo hi : Int) (w : World) : Calls Try.prog 18 #[.int .i64 a, .int .i64 lo, .int .i64 hi] w fun e w' => e = .returned (.bool (decide (lo ≤ a) && decide (a ≤ hi))) ∧ w' = w := by
  by_cases h : lo ≤ a
  · rw [decide_eq_true h, Bool.true_and]
    go_enter Try.func18, Try.ntmps18
    go_wp2
    go_ret
    exact ⟨rfl, rfl⟩
  · rw [decide_eq_false h, Bool.false_and]
    go_enter Try.func18, Try.ntmps18
    go_wp2
    go_ret
    exact ⟨rfl, rfl⟩
/-- how many Kids an expression of a kind has -/
def kidsM (kind : Int) : Int := if kind = 1 then 0 else if kind = 2 then 0 else if kind = 3 then 1 else if kind = 4 then 2 else if kind = 5 then 2 else if kind = 6 then 2 else if kind = 7 then 3 else -1
/-- whether an expression's number is right -/
def numB (kind n : Int) : Bool := if kind = 1 then decide (0 ≤ n) && decide (n ≤ 11) else if kind = 2 then decide (0 ≤ n) && decide (n ≤ 1) else n == 0
set_option maxHeartbeats 4000000 in
theorem kidsOf_is (kind : Int) (w : World) : Calls Try.prog 25 #[.int .i64 kind] w fun e w' => e = .returned (.int .i64 (kidsM kind)) ∧ w' = w := by
  unfold kidsM
  by_cases h1 : kind = 1
  · subst h1
    rw [if_pos rfl]
    go_enter Try.func25, Try.ntmps25
    go_wp2
    go_ret
    exact ⟨rfl, rfl⟩
  by_cases h2 : kind = 2
  · subst h2
    rw [if_neg (by decide), if_pos rfl]
    go_enter Try.func25, Try.ntmps25
    go_wp2
    go_ret
    exact ⟨rfl, rfl⟩
  by_cases h3 : kind = 3
  · subst h3
    rw [if_neg (by decide), if_neg (by decide), if_pos rfl]
    go_enter Try.func25, Try.ntmps25
    go_wp2
    go_ret
    exact ⟨rfl, rfl⟩
  by_cases h4 : kind = 4
  · subst h4
    rw [if_neg (by decide), if_neg (by decide), if_neg (by decide), if_pos rfl]
    go_enter Try.func25, Try.ntmps25
    go_wp2
    go_ret
    exact ⟨rfl, rfl⟩
  by_cases h5 : kind = 5
  · subst h5
    rw [if_neg (by decide), if_neg (by decide), if_neg (by decide), if_neg (by decide), if_pos rfl]
    go_enter Try.func25, Try.ntmps25
    go_wp2
    go_ret
    exact ⟨rfl, rfl⟩
  by_cases h6 : kind = 6
  · subst h6
    rw [if_neg (by decide), if_neg (by decide), if_neg (by decide), if_neg (by decide), if_neg (by decide), if_pos rfl]
    go_enter Try.func25, Try.ntmps25
    go_wp2
    go_ret
    exact ⟨rfl, rfl⟩
  by_cases h7 : kind = 7
  · subst h7
    rw [if_neg (by decide), if_neg (by decide), if_neg (by decide), if_neg (by decide), if_neg (by decide), if_neg (by decide), if_pos rfl]
    go_enter Try.func25, Try.ntmps25
    go_wp2
    go_ret
    exact ⟨rfl, rfl⟩
  rw [if_neg h1, if_neg h2, if_neg h3, if_neg h4, if_neg h5, if_neg h6, if_neg h7]
  go_enter Try.func25, Try.ntmps25
  go_wp2
  go_ret
  exact ⟨rfl, rfl⟩
mutual
/-- whether an expression is right at a depth, and the count of nodes behind it -/
def countE : S27 → Int → Int → Bool × Int
  | ⟨kind, n, kids⟩, deep, c => if decide (wrap64 (c + 1) > 400) || (decide (deep > 40) || (!((kids.length : Int) == kidsM kind) || !(numB kind n))) then (false, wrap64 (c + 1)) else countEs kids (wrap64 (deep + 1)) (wrap64 (c + 1))
def countEs : List (S27) → Int → Int → Bool × Int
  | [], _, c => (true, c)
  | x :: r, deep, c => match countE x deep c with
    | (true, c1) => countEs r deep c1
    | (false, c1) => (false, c1)
end
/-- the count behind the first i of some Kids, each looked at -/
def stE (deep : Int) (l : List (S27)) (c : Int) : Nat → Int
  | 0 => c
  | i + 1 => (countE (rd_T27 l (i : Int)) deep (stE deep l c i)).2
theorem countEs_all (deep : Int) (c : Int) (l : List (S27)) (h : ∀ j, j < l.length → (countE (rd_T27 l (j : Int)) deep (stE deep l c j)).1 = true) : countEs l deep c = (true, stE deep l c l.length) := by
  have key : ∀ d i, i + d = l.length → countEs (l.drop i) deep (stE deep l c i) = (true, stE deep l c l.length) := by
    intro d
    induction d with
    | zero =>
      intro i hi
      obtain rfl : i = l.length := by omega
      rw [List.drop_length, countEs]
    | succ d ih =>
      intro i hi
      have hil : i < l.length := by omega
      have hr : rd_T27 l (i : Int) = l[i] := by unfold rd_T27; simp [List.getD, hil]
      rw [List.drop_eq_getElem_cons hil, countEs]
      have h1 := h i hil
      rw [hr] at h1
      have h2 := ih (i + 1) (by omega)
      rw [stE, hr] at h2
      generalize countE l[i] deep (stE deep l c i) = q at h1 h2
      obtain ⟨q1, q2⟩ := q
      subst h1
      exact h2
  have := key l.length 0 (by omega)
  rw [List.drop_zero, stE] at this
  exact this
theorem countEs_hit (deep : Int) (c : Int) (l : List (S27)) (i : Nat) (hi : i < l.length) (hf : (countE (rd_T27 l (i : Int)) deep (stE deep l c i)).1 = false) (h : ∀ j, j < i → (countE (rd_T27 l (j : Int)) deep (stE deep l c j)).1 = true) : countEs l deep c = (false, stE deep l c (i + 1)) := by
  have key : ∀ d k, k + d = i → countEs (l.drop k) deep (stE deep l c k) = (false, stE deep l c (i + 1)) := by
    intro d
    induction d with
    | zero =>
      intro k hk
      obtain rfl : k = i := by omega
      have hr : rd_T27 l (k : Int) = l[k] := by unfold rd_T27; simp [List.getD, hi]
      rw [List.drop_eq_getElem_cons hi, countEs, stE]
      rw [hr] at hf ⊢
      generalize countE l[k] deep (stE deep l c k) = q at hf ⊢
      obtain ⟨q1, q2⟩ := q
      subst hf
      rfl
    | succ d ih =>
      intro k hk
      have hkl : k < l.length := by omega
      have hr : rd_T27 l (k : Int) = l[k] := by unfold rd_T27; simp [List.getD, hkl]
      rw [List.drop_eq_getElem_cons hkl, countEs]
      have h1 := h k (by omega)
      rw [hr] at h1
      have h2 := ih (k + 1) (by omega)
      rw [stE, hr] at h2
      generalize countE l[k] deep (stE deep l c k) = q at h1 h2
      obtain ⟨q1, q2⟩ := q
      subst h1
      exact h2
  have := key i 0 (by omega)
  rw [List.drop_zero, stE] at this
  exact this
/-- what a call of countEx does -/
def SaidE (deep : Int) (x : S27) : Prop := ∀ (c : Int) (A2 : Option Addr) (c2 : Nat) (g : Nat) (w0 w : World), Kd.C k27 w0 A2 x.f2.length x.f2 → x.f2.length ≤ c2 → Below w0.heap.size w0 w → w0.heap.size ≤ g → w.heap[g]? = some (.cells #[.int .i64 c] 3 (0, 0)) →
  Calls Try.prog 22 #[.agg #[.int .i64 x.f0, .int .i64 x.f1, .slice A2 x.f2.length c2], .int .i64 deep, .pointer (some ⟨g, 0, none⟩)] w fun e w' => e = .returned (.bool (countE x deep c).1) ∧ CE g (countE x deep c).2 w w'
theorem CE.base {g : Nat} {c : Int} {w0 w w' : World} (h : CE g c w w') (hb : Below w0.heap.size w0 w) (hg : w0.heap.size ≤ g) : Below w0.heap.size w0 w' :=
  ⟨h.os.trans hb.os, h.tape.trans hb.tape, h.output.trans hb.output, Nat.le_trans hb.size h.size, fun k hk => (h.block k (Nat.lt_of_lt_of_le hk hb.size) (by omega)).trans (hb.block k hk)⟩
set_option maxHeartbeats 4000000 in
set_option maxRecDepth 100000 in
theorem countE_fn (dp deep : Int) (hdp : wrap64 (dp + 1) = deep) (x : S27) (hx : SaidE deep x) (c : Int) (A2 : Option Addr) (c2 : Nat) (g B : Nat) (w0 w : World) (hr : Kd.C k27 w0 A2 x.f2.length x.f2) (hc : x.f2.length ≤ c2) (hb : Below w0.heap.size w0 w) (hg : w0.heap.size ≤ g) (hcnt : w.heap[g]? = some (.cells #[.int .i64 c] 3 (0, 0)))
    (h1 : w.cell? ⟨B, 0, none⟩ = some (.int .i64 dp)) (h2 : w.cell? ⟨B + 1, 0, none⟩ = some (.pointer (some ⟨g, 0, none⟩))) :
    Calls Try.prog 26 #[.agg #[.int .i64 x.f0, .int .i64 x.f1, .slice A2 x.f2.length c2], .pointer (some ⟨B, 0, none⟩), .pointer (some ⟨B + 1, 0, none⟩)] w fun e w' => e = .returned (.bool (!(countE x deep c).1)) ∧ CE g (countE x deep c).2 w w' := by
  subst hdp
  have hcall := hx c A2 c2 g w0 (w.alloc (.cells #[.int .i64 x.f0, .int .i64 x.f1, .slice A2 x.f2.length c2] 27)) hr hc (hb.alloc hb.size _) hg ((((Below.refl w.heap.size w).alloc (Nat.le_refl _) _).block g (Array.getElem?_eq_some_iff.1 hcnt).1).trans hcnt)
  have hB : Below w.heap.size w (w.alloc (.cells #[.int .i64 x.f0, .int .i64 x.f1, .slice A2 x.f2.length c2] 27)) := (Below.refl _ _).alloc (Nat.le_refl _) _
  have h1' := (hB.cell (World.block_lt_of_cell? w _ h1)).trans h1
  have h2' := (hB.cell (World.block_lt_of_cell? w _ h2)).trans h2
  have H := Aside0.mk hcnt
  have hu := Try.underlying27
  clear hr hc hb hg h1 h2 hcnt hx
  generalize countE x (wrap64 (dp + 1)) c = q at hcall ⊢
  obtain ⟨q1, q2⟩ := q
  simp only at hcall ⊢
  go_enter Try.func26, Try.ntmps26
  go_wp2_with (go_at_call 22; refine hcall.mono ?_; rintro e w' ⟨rfl, hb⟩)
  go_ret
  exact ⟨rfl, ((CE.refl H.out).below hB).trans hb⟩
theorem below3E (w : World) (a b c : Obj) : Below w.heap.size w (((w.alloc a).alloc b).alloc c) := by
  have h1 := (Below.refl w.heap.size w).alloc (Nat.le_refl _) a
  have h2 := h1.alloc h1.size b
  exact h2.alloc h2.size c
theorem countE_bad {deep kind n c : Int} {kids : List (S27)} (hb : (decide (wrap64 (c + 1) > 400) || (decide (deep > 40) || (!((kids.length : Int) == kidsM kind) || !(numB kind n)))) = true) : countE ⟨kind, n, kids⟩ deep c = (false, wrap64 (c + 1)) := by
  rw [countE]
  simp only [hb, if_true]
theorem countE_good {deep kind n c : Int} {kids : List (S27)} (h1 : ¬ wrap64 (c + 1) > 400) (h3 : ¬ deep > 40) (h2 : (kids.length : Int) = kidsM kind) (h4 : numB kind n = true) : countE ⟨kind, n, kids⟩ deep c = countEs kids (wrap64 (deep + 1)) (wrap64 (c + 1)) := by
  rw [countE]
  simp [h1, h2, h3, h4]
theorem sz_kidE {kind n : Int} {kids : List (S27)} {d : Nat} (h : SizeOf.sizeOf (⟨kind, n, kids⟩ : S27) < d + 1) (i : Nat) (hi : i < kids.length) : SizeOf.sizeOf (rd_T27 kids (i : Int)) < d := by
  have hr : rd_T27 kids (i : Int) = kids[i] := by unfold rd_T27; simp [List.getD, hi]
  rw [hr]
  have := List.sizeOf_lt_of_mem (List.getElem_mem hi)
  simp at h
  omega
theorem CE.kid {g : Nat} {c c1 : Int} {w0 w W3 W' : World} (hb : Below w0.heap.size w0 w) (hg : w0.heap.size ≤ g) (h3 : CE g c1 w W3) (h : CE g c W3 W') : Below w0.heap.size w0 W' := (h3.trans h).base hb hg
/-- the call of slices.ContainsFunc over the Kids -/
theorem countE_kids (dp c1 : Int) (kids : List (S27)) (A2 : Option Addr) (c2 g B : Nat) (w0 w W3 : World) (hd : Kd.C k27 w0 A2 kids.length kids) (hb : Below w0.heap.size w0 w) (hg : w0.heap.size ≤ g) (hgB : g < B) (h3 : CE g c1 w W3)
    (hYb : W3.cell? ⟨B + 1, 0, none⟩ = some (.int .i64 dp)) (hYc : W3.cell? ⟨B + 1 + 1, 0, none⟩ = some (.pointer (some ⟨g, 0, none⟩))) (hn : kids.length ≤ 9223372036854775807) (hk : ∀ i : Nat, i < kids.length → SaidE (wrap64 (dp + 1)) (rd_T27 kids (i : Int))) :
    Calls Try.prog 23 #[.slice A2 kids.length c2, .func (.func 26) #[] #[.pointer (some ⟨B + 1, 0, none⟩), .pointer (some ⟨B + 1 + 1, 0, none⟩)]] W3 fun e w' => e = .returned (.bool (!(countEs kids (wrap64 (dp + 1)) c1).1)) ∧ CE g (countEs kids (wrap64 (dp + 1)) c1).2 W3 w' := by
  refine (any27 (fun i W' => CE g (stE (wrap64 (dp + 1)) kids c1 i) W3 W') (fun i => !(countE (rd_T27 kids (i : Int)) (wrap64 (dp + 1)) (stE (wrap64 (dp + 1)) kids c1 i)).1) kids 26 #[.pointer (some ⟨B + 1, 0, none⟩), .pointer (some ⟨B + 1 + 1, 0, none⟩)] (enters_of Try.func26 (by kernel_rfl) rfl) A2 c2 W3 hn (CE.refl h3.cnt) w0 hd (fun i W' h => CE.kid hb hg h3 h) ?_).mono ?_
  · intro i hi _ W' hW A' c' hd' hc'
    have e1 := (hW.cell (World.block_lt_of_cell? W3 _ hYb) (show B + 1 ≠ g by omega)).trans hYb
    have e2 := (hW.cell (World.block_lt_of_cell? W3 _ hYc) (show B + 1 + 1 ≠ g by omega)).trans hYc
    refine (countE_fn dp _ rfl _ (hk i hi) (stE (wrap64 (dp + 1)) kids c1 i) A' c' g (B + 1) w0 W' hd' hc' (CE.kid hb hg h3 hW) hg hW.cnt e1 e2).mono ?_
    rintro e w' ⟨rfl, h⟩
    exact ⟨rfl, hW.trans h⟩
  · rintro e w' ⟨b, rfl, m, hm, hI, h⟩
    rcases h with ⟨rfl, rfl, h⟩ | ⟨rfl, i, rfl, h1, h⟩
    · have := countEs_all _ c1 kids (fun j hj => by simpa using h j hj)
      rw [this]
      exact ⟨rfl, hI⟩
    · have := countEs_hit _ c1 kids i (by omega) (by simpa using h1) (fun j hj => by simpa using h j hj)
      rw [this]
      exact ⟨rfl, hI⟩
set_option maxHeartbeats 4000000 in
set_option maxRecDepth 100000 in
theorem countE_calls : ∀ (d : Nat) (x : S27), SizeOf.sizeOf x < d → ∀ deep, SaidE deep x := by
  intro d
  induction d with
  | zero => exact fun x h => absurd h (Nat.not_lt_zero _)
  | succ d ih =>
    intro x hxd deep c A2 c2 g w0 w hr hc hb hg hcnt
    obtain ⟨kind, n, kids⟩ := x
    have hgs : g < w.heap.size := (Array.getElem?_eq_some_iff.1 hcnt).1
    have hv0 : w.cell? ⟨g, 0, none⟩ = some (.int .i64 c) := (blk_cell hcnt 0).trans rfl
    have hf0 : w.frozen? ⟨g, 0, none⟩ = false := blk_frozen hcnt 0
    have hB3 : Below w.heap.size w (((w.alloc (.cells #[.int .i64 kind, .int .i64 n, .slice A2 kids.length c2] 27)).alloc (.cells #[.int .i64 deep] 3)).alloc (.cells #[.pointer (some ⟨g, 0, none⟩)] 49)) := below3E _ _ _ _
    have hgA := (hB3.cell (p := ⟨g, 0, none⟩) hgs).trans hv0
    have hgF := (World.frozen?_of_block (a := ⟨g, 0, none⟩) (hB3.block g hgs)).trans hf0
    have hn0 : g ≠ w.heap.size := by omega
    have hn1 : g ≠ w.heap.size + 1 := by omega
    have hn2 : g ≠ w.heap.size + 1 + 1 := by omega
    obtain ⟨W, hW, hX0, hX1, hX2, hXb, hXc, hXg, hC3⟩ : ∃ W, ((((w.alloc (.cells #[.int .i64 kind, .int .i64 n, .slice A2 kids.length c2] 27)).alloc (.cells #[.int .i64 deep] 3)).alloc (.cells #[.pointer (some ⟨g, 0, none⟩)] 49)).setCell ⟨g, 0, none⟩ (.int .i64 (wrap64 (c + 1)))) = W ∧ W.cell? ⟨w.heap.size, 0, none⟩ = some (.int .i64 kind) ∧ W.cell? ⟨w.heap.size, 1, none⟩ = some (.int .i64 n) ∧ W.cell? ⟨w.heap.size, 2, none⟩ = some (.slice A2 kids.length c2) ∧ W.cell? ⟨w.heap.size + 1, 0, none⟩ = some (.int .i64 deep) ∧ W.cell? ⟨w.heap.size + 1 + 1, 0, none⟩ = some (.pointer (some ⟨g, 0, none⟩)) ∧ W.cell? ⟨g, 0, none⟩ = some (.int .i64 (wrap64 (c + 1))) ∧ CE g (wrap64 (c + 1)) w W := by
      have h3 := (((CE.refl hcnt).below hB3).set (c1 := wrap64 (c + 1)))
      refine ⟨_, rfl, ?_, ?_, ?_, ?_, ?_, h3.val, h3⟩
      · go_simp
      · go_simp
      · go_simp
      · go_simp
      · go_simp
    have hWs := Aside0.mk hW
    have hC3' := Aside0.mk hC3
    have hkids : ∀ i : Nat, i < kids.length → SaidE (wrap64 (deep + 1)) (rd_T27 kids (i : Int)) := fun i hi => ih _ (sz_kidE hxd i hi) _
    have hlen : kids.length ≤ 9223372036854775807 := Kd.C_max hr
    have H := Aside0.mk (And.intro hr (And.intro hb (And.intro hg (And.intro hgs (And.intro hlen hkids)))))
    have hK := kidsOf_is kind
    clear hr hc hb hg hcnt hxd ih hB3 hv0 hf0 hC3 hW hkids hlen
    have HX := Aside0.mk (And.intro hX0 (And.intro hX1 (And.intro hX2 (And.intro hXb (And.intro hXc hXg)))))
    clear hX0 hX1 hX2 hXb hXc hXg
    go_enter Try.func22, Try.ntmps22
    go_upto_region 2 with fail
    rw [hWs.out]
    obtain ⟨hX0, hX1, hX2, hXb, hXc, hXg⟩ := HX.out
    clear hWs HX hgA hgF hgs hn0 hn1 hn2
    generalize w.heap.size = B at *
    by_cases k1 : kind = 1
    · subst k1
      go_upto_region 8 with (go_at_call 18; refine (within_anyE _ _ _ _).mono ?_; rintro e w' ⟨rfl, hq⟩; have hq2 := hq.symm; subst hq2; clear hq)
      have hnum : numB 1 n = (decide (0 ≤ n) && decide (n ≤ 11)) := by rw [numB, if_pos rfl]
      generalize (decide (0 ≤ n) && decide (n ≤ 11)) = okb at hnum ⊢
      have HN := Aside0.mk hnum
      clear hnum
      generalize hkm : kidsM 1 = km at hK
      have HM := Aside0.mk hkm
      clear hkm
      by_cases t1 : wrap64 (c + 1) > 400
      · go_quiet ((go_at_call 25; exact Calls.quiet_of_same (hK _)))
        have hC5 := CE.below hC3'.out (w2 := W.drewN nq) ⟨rfl, rfl, rfl, Nat.le_refl _, fun _ _ => rfl⟩
        go_wp2
        go_ret
        have := @countE_bad deep 1 n c kids (by simp [t1])
        rw [this]
        exact ⟨rfl, hC5⟩
      by_cases t3 : deep > 40
      · go_quiet ((go_at_call 25; exact Calls.quiet_of_same (hK _)))
        have hC5 := CE.below hC3'.out (w2 := W.drewN nq) ⟨rfl, rfl, rfl, Nat.le_refl _, fun _ _ => rfl⟩
        go_wp2
        go_ret
        have := @countE_bad deep 1 n c kids (by simp [t3])
        rw [this]
        exact ⟨rfl, hC5⟩
      by_cases t2 : (kids.length : Int) = km
      · cases okb with
        | false =>
          go_quiet ((go_at_call 25; exact Calls.quiet_of_same (hK _)))
          have hC5 := CE.below hC3'.out (w2 := W.drewN nq) ⟨rfl, rfl, rfl, Nat.le_refl _, fun _ _ => rfl⟩
          go_wp2
          go_ret
          have := @countE_bad deep 1 n c kids (by rw [HN.out]; simp)
          rw [this]
          exact ⟨rfl, hC5⟩
        | true =>
          have T := Aside0.mk (And.intro t1 (And.intro t3 t2))
          go_quiet ((go_at_call 25; exact Calls.quiet_of_same (hK _)))
          have hC5 := Aside0.mk (CE.below hC3'.out (w2 := W.drewN nq) ⟨rfl, rfl, rfl, Nat.le_refl _, fun _ _ => rfl⟩)
          replace hX2 : (W.drewN nq).cell? ⟨B, 2, none⟩ = some (.slice A2 kids.length c2) := hX2
          replace hXb : (W.drewN nq).cell? ⟨B + 1, 0, none⟩ = some (.int .i64 deep) := hXb
          replace hXc : (W.drewN nq).cell? ⟨B + 1 + 1, 0, none⟩ = some (.pointer (some ⟨g, 0, none⟩)) := hXc
          clear hX0 hX1 hXg hC3'
          generalize W.drewN nq = W3 at *
          obtain ⟨q1, q2, q3, q4, q5, q6⟩ := H.out
          have hcall := countE_kids deep (wrap64 (c + 1)) kids A2 c2 g B w0 w W3 q1 q2 q3 q4 hC5.out hXb hXc q5 q6
          clear q1 q2 q3 q4 q5 q6
          have hres := Aside0.mk (@countE_good deep 1 n c kids T.out.1 T.out.2.1 (T.out.2.2.trans HM.out.symm) HN.out)
          generalize countEs kids (wrap64 (deep + 1)) (wrap64 (c + 1)) = q at hcall hres
          obtain ⟨r1, r2⟩ := q
          simp only at hcall
          go_wp2_with (go_at_call 23; refine hcall.mono ?_; rintro e w' ⟨rfl, hb⟩)
          go_ret
          rw [hres.out]
          exact ⟨by simp, hC5.out.trans hb⟩
      · have HT := Aside0.mk t2
        go_quiet ((go_at_call 25; exact Calls.quiet_of_same (hK _)))
        have hC5 := CE.below hC3'.out (w2 := W.drewN nq) ⟨rfl, rfl, rfl, Nat.le_refl _, fun _ _ => rfl⟩
        go_wp2
        go_ret
        have := @countE_bad deep 1 n c kids (by rw [HM.out, beq_false_of_ne HT.out]; simp)
        rw [this]
        exact ⟨rfl, hC5⟩
    by_cases k2 : kind = 2
    · subst k2
      go_upto_region 8 with (go_at_call 18; refine (within_anyE _ _ _ _).mono ?_; rintro e w' ⟨rfl, hq⟩; have hq2 := hq.symm; subst hq2; clear hq)
      have hnum : numB 2 n = (decide (0 ≤ n) && decide (n ≤ 1)) := by rw [numB, if_neg (by decide), if_pos rfl]
      generalize (decide (0 ≤ n) && decide (n ≤ 1)) = okb at hnum ⊢
      have HN := Aside0.mk hnum
      clear hnum
      generalize hkm : kidsM 2 = km at hK
      have HM := Aside0.mk hkm
      clear hkm
      by_cases t1 : wrap64 (c + 1) > 400
      · go_quiet ((go_at_call 25; exact Calls.quiet_of_same (hK _)))
        have hC5 := CE.below hC3'.out (w2 := W.drewN nq) ⟨rfl, rfl, rfl, Nat.le_refl _, fun _ _ => rfl⟩
        go_wp2
        go_ret
        have := @countE_bad deep 2 n c kids (by simp [t1])
        rw [this]
        exact ⟨rfl, hC5⟩
      by_cases t3 : deep > 40
      · go_quiet ((go_at_call 25; exact Calls.quiet_of_same (hK _)))
        have hC5 := CE.below hC3'.out (w2 := W.drewN nq) ⟨rfl, rfl, rfl, Nat.le_refl _, fun _ _ => rfl⟩
        go_wp2
        go_ret
        have := @countE_bad deep 2 n c kids (by simp [t3])
        rw [this]
        exact ⟨rfl, hC5⟩
      by_cases t2 : (kids.length : Int) = km
      · cases okb with
        | false =>
          go_quiet ((go_at_call 25; exact Calls.quiet_of_same (hK _)))
          have hC5 := CE.below hC3'.out (w2 := W.drewN nq) ⟨rfl, rfl, rfl, Nat.le_refl _, fun _ _ => rfl⟩
          go_wp2
          go_ret
          have := @countE_bad deep 2 n c kids (by rw [HN.out]; simp)
          rw [this]
          exact ⟨rfl, hC5⟩
        | true =>
          have T := Aside0.mk (And.intro t1 (And.intro t3 t2))
          go_quiet ((go_at_call 25; exact Calls.quiet_of_same (hK _)))
          have hC5 := Aside0.mk (CE.below hC3'.out (w2 := W.drewN nq) ⟨rfl, rfl, rfl, Nat.le_refl _, fun _ _ => rfl⟩)
          replace hX2 : (W.drewN nq).cell? ⟨B, 2, none⟩ = some (.slice A2 kids.length c2) := hX2
          replace hXb : (W.drewN nq).cell? ⟨B + 1, 0, none⟩ = some (.int .i64 deep) := hXb
          replace hXc : (W.drewN nq).cell? ⟨B + 1 + 1, 0, none⟩ = some (.pointer (some ⟨g, 0, none⟩)) := hXc
          clear hX0 hX1 hXg hC3'
          generalize W.drewN nq = W3 at *
          obtain ⟨q1, q2, q3, q4, q5, q6⟩ := H.out
          have hcall := countE_kids deep (wrap64 (c + 1)) kids A2 c2 g B w0 w W3 q1 q2 q3 q4 hC5.out hXb hXc q5 q6
          clear q1 q2 q3 q4 q5 q6
          have hres := Aside0.mk (@countE_good deep 2 n c kids T.out.1 T.out.2.1 (T.out.2.2.trans HM.out.symm) HN.out)
          generalize countEs kids (wrap64 (deep + 1)) (wrap64 (c + 1)) = q at hcall hres
          obtain ⟨r1, r2⟩ := q
          simp only at hcall
          go_wp2_with (go_at_call 23; refine hcall.mono ?_; rintro e w' ⟨rfl, hb⟩)
          go_ret
          rw [hres.out]
          exact ⟨by simp, hC5.out.trans hb⟩
      · have HT := Aside0.mk t2
        go_quiet ((go_at_call 25; exact Calls.quiet_of_same (hK _)))
        have hC5 := CE.below hC3'.out (w2 := W.drewN nq) ⟨rfl, rfl, rfl, Nat.le_refl _, fun _ _ => rfl⟩
        go_wp2
        go_ret
        have := @countE_bad deep 2 n c kids (by rw [HM.out, beq_false_of_ne HT.out]; simp)
        rw [this]
        exact ⟨rfl, hC5⟩
    go_upto_region 8 with (go_at_call 18; refine (within_anyE _ _ _ _).mono ?_; rintro e w' ⟨rfl, hq⟩; have hq2 := hq.symm; subst hq2; clear hq)
    have hnum : numB kind n = (n == 0) := by rw [numB, if_neg k1, if_neg k2]
    generalize (n == 0) = okb at hnum ⊢
    have HN := Aside0.mk hnum
    clear hnum
    generalize hkm : kidsM kind = km at hK
    have HM := Aside0.mk hkm
    clear hkm
    by_cases t1 : wrap64 (c + 1) > 400
    · go_quiet ((go_at_call 25; exact Calls.quiet_of_same (hK _)))
      have hC5 := CE.below hC3'.out (w2 := W.drewN nq) ⟨rfl, rfl, rfl, Nat.le_refl _, fun _ _ => rfl⟩
      go_wp2
      go_ret
      have := @countE_bad deep kind n c kids (by simp [t1])
      rw [this]
      exact ⟨rfl, hC5⟩
    by_cases t3 : deep > 40
    · go_quiet ((go_at_call 25; exact Calls.quiet_of_same (hK _)))
      have hC5 := CE.below hC3'.out (w2 := W.drewN nq) ⟨rfl, rfl, rfl, Nat.le_refl _, fun _ _ => rfl⟩
      go_wp2
      go_ret
      have := @countE_bad deep kind n c kids (by simp [t3])
      rw [this]
      exact ⟨rfl, hC5⟩
    by_cases t2 : (kids.length : Int) = km
    · cases okb with
      | false =>
        go_quiet ((go_at_call 25; exact Calls.quiet_of_same (hK _)))
        have hC5 := CE.below hC3'.out (w2 := W.drewN nq) ⟨rfl, rfl, rfl, Nat.le_refl _, fun _ _ => rfl⟩
        go_wp2
        go_ret
        have := @countE_bad deep kind n c kids (by rw [HN.out]; simp)
        rw [this]
        exact ⟨rfl, hC5⟩
      | true =>
        have T := Aside0.mk (And.intro t1 (And.intro t3 t2))
        go_quiet ((go_at_call 25; exact Calls.quiet_of_same (hK _)))
        have hC5 := Aside0.mk (CE.below hC3'.out (w2 := W.drewN nq) ⟨rfl, rfl, rfl, Nat.le_refl _, fun _ _ => rfl⟩)
        replace hX2 : (W.drewN nq).cell? ⟨B, 2, none⟩ = some (.slice A2 kids.length c2) := hX2
        replace hXb : (W.drewN nq).cell? ⟨B + 1, 0, none⟩ = some (.int .i64 deep) := hXb
        replace hXc : (W.drewN nq).cell? ⟨B + 1 + 1, 0, none⟩ = some (.pointer (some ⟨g, 0, none⟩)) := hXc
        clear hX0 hX1 hXg hC3'
        generalize W.drewN nq = W3 at *
        obtain ⟨q1, q2, q3, q4, q5, q6⟩ := H.out
        have hcall := countE_kids deep (wrap64 (c + 1)) kids A2 c2 g B w0 w W3 q1 q2 q3 q4 hC5.out hXb hXc q5 q6
        clear q1 q2 q3 q4 q5 q6
        have hres := Aside0.mk (@countE_good deep kind n c kids T.out.1 T.out.2.1 (T.out.2.2.trans HM.out.symm) HN.out)
        generalize countEs kids (wrap64 (deep + 1)) (wrap64 (c + 1)) = q at hcall hres
        obtain ⟨r1, r2⟩ := q
        simp only at hcall
        go_wp2_with (go_at_call 23; refine hcall.mono ?_; rintro e w' ⟨rfl, hb⟩)
        go_ret
        rw [hres.out]
        exact ⟨by simp, hC5.out.trans hb⟩
    · have HT := Aside0.mk t2
      go_quiet ((go_at_call 25; exact Calls.quiet_of_same (hK _)))
      have hC5 := CE.below hC3'.out (w2 := W.drewN nq) ⟨rfl, rfl, rfl, Nat.le_refl _, fun _ _ => rfl⟩
      go_wp2
      go_ret
      have := @countE_bad deep kind n c kids (by rw [HM.out, beq_false_of_ne HT.out]; simp)
      rw [this]
      exact ⟨rfl, hC5⟩

end Go.Proofs.Ytpcgepealdpinaa.PFnCompares
