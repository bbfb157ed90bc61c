/- FnExactNameOK: for every text the law on NameOK returns true: the program's answer is the reference's. No conditions beyond the form's own reach. -/
import Derived.Test.YtlmbofklbjloeaaPFnExactNameOKx3
set_option linter.unusedVariables false
set_option linter.unusedSimpArgs false
namespace Go.Proofs.Ytlmbofklbjloeaa.Pure
open Go.RowKit Go.Proofs.Ytlmbofklbjloeaa.PFnExactNameOK Go.Proofs.YtlmbofklbjloeaaW.PrintWords Go.Proofs.YtlmbofklbjloeaaW.PrintLast


theorem wrap_up {i : Int} {n : Nat} (h0 : 0 ≤ i) (h : i < (n : Int)) (hn : n ≤ 140737488351232) : wrap64 (i + 1) = i + 1 := by
  unfold wrap64
  omega

/-- a letter -/
def lt (c : Int) : Bool := (decide (97 ≤ c) && decide (c ≤ 122)) || (decide (65 ≤ c) && decide (c ≤ 90)) || (c == 95)
/-- a digit -/
def dg (c : Int) : Bool := decide (48 ≤ c) && decide (c ≤ 57)

theorem letter_is (c : Int) : spec_l00Letter.f c = some (lt c) := by
  unfold spec_l00Letter.f lt
  by_cases h1 : 97 ≤ c <;> by_cases h2 : c ≤ 122 <;> by_cases h3 : 65 ≤ c <;> by_cases h4 : c ≤ 90 <;> simp [h1, h2, h3, h4]
theorem digit_is (c : Int) : spec_l00Digit.f c = some (dg c) := by
  unfold spec_l00Digit.f dg
  by_cases h1 : 48 ≤ c <;> simp [h1]

/-- all of d bytes from i on may stand in a name -/
def allOK (s : ByteArray) : Nat → Int → Bool
  | 0, _ => true
  | d + 1, i => (lt (bt s i) || (decide (i ≠ 0) && dg (bt s i))) && allOK s d (i + 1)

theorem impl_step (k : Nat) (s : ByteArray) (i : Int) (h0 : 0 ≤ i) (h1 : i < (s.size : Int)) :
    impl_NameOK.l0 (k + 1) s (s.size : Int) i = if (lt (bt s i) || (decide (i ≠ 0) && dg (bt s i))) = true then impl_NameOK.l0 k s (s.size : Int) (wrap64 (i + 1)) else some false := by
  simp only [impl_NameOK.l0]
  rw [if_pos h1, if_pos h0, if_pos h1]
  generalize bt s i = c
  unfold lt dg
  by_cases g1 : 97 ≤ c <;> by_cases g2 : c ≤ 122 <;> by_cases g3 : 65 ≤ c <;> by_cases g4 : c ≤ 90 <;> by_cases g5 : c = 95 <;> by_cases g6 : i = 0 <;> by_cases g7 : 48 ≤ c <;> by_cases g8 : c ≤ 57 <;> simp [g1, g2, g3, g4, g5, g6, g7, g8]

theorem impl_loop (s : ByteArray) (hn : s.size ≤ 140737488351232) (d : Nat) : ∀ (k : Nat) (i : Int), 0 ≤ i → (s.size : Int) - i = d → d < k →
    impl_NameOK.l0 k s (s.size : Int) i = some (allOK s d i && decide (1 ≤ s.size) && decide (s.size ≤ 40)) := by
  induction d with
  | zero =>
    intro k i h0 hd hk
    obtain ⟨k, rfl⟩ : ∃ m, k = m + 1 := ⟨k - 1, by omega⟩
    simp only [impl_NameOK.l0]
    rw [if_neg (by omega)]
    simp only [impl_within.f, allOK, Bool.true_and]
    by_cases g1 : 1 ≤ s.size
    · rw [if_pos (by omega)]; simp only [Option.bind_some, decide_eq_true g1, Bool.true_and]
      by_cases g2 : s.size ≤ 40
      · rw [decide_eq_true g2, decide_eq_true (by omega)]
      · rw [decide_eq_false g2, decide_eq_false (by omega)]
    · rw [if_neg (by omega)]; simp only [Option.bind_some, decide_eq_false g1, Bool.false_and]
  | succ d ih =>
    intro k i h0 hd hk
    obtain ⟨k, rfl⟩ : ∃ m, k = m + 1 := ⟨k - 1, by omega⟩
    rw [impl_step k s i h0 (by omega)]
    simp only [allOK]
    cases h : (lt (bt s i) || (decide (i ≠ 0) && dg (bt s i))) with
    | true => rw [if_pos rfl, wrap_up h0 (by omega) hn, ih k (i + 1) (by omega) (by omega) (by omega)]; simp
    | false => simp

theorem spec_loop (s : ByteArray) (hn : s.size ≤ 140737488351232) (d : Nat) : ∀ (k : Nat) (i : Int), 1 ≤ i → (s.size : Int) - i = d → d < k →
    spec_l00Word.l0 k s i = some (allOK s d i) := by
  induction d with
  | zero =>
    intro k i h0 hd hk
    obtain ⟨k, rfl⟩ : ∃ m, k = m + 1 := ⟨k - 1, by omega⟩
    simp only [spec_l00Word.l0]
    rw [if_neg (by omega)]
    simp only [allOK]
  | succ d ih =>
    intro k i h0 hd hk
    obtain ⟨k, rfl⟩ : ∃ m, k = m + 1 := ⟨k - 1, by omega⟩
    simp only [spec_l00Word.l0, letter_is, digit_is, Option.bind_some, allOK]
    rw [if_pos (by omega), if_pos (by omega), wrap_up (by omega) (by omega) hn, ih k (i + 1) (by omega) (by omega) (by omega), decide_eq_true (by omega : i ≠ 0)]
    cases lt (bt s i) <;> cases dg (bt s i) <;> simp

theorem spec_is (s : ByteArray) (hn : s.size ≤ 140737488351232) (k : Nat) (hk : s.size + 2 < k) :
    spec_NameOK.f k s = some (allOK s s.size 0 && decide (1 ≤ s.size) && decide (s.size ≤ 40)) := by
  obtain ⟨k, rfl⟩ : ∃ m, k = m + 1 := ⟨k - 1, by omega⟩
  unfold spec_NameOK.f spec_l00Word.f
  by_cases g1 : 1 ≤ s.size
  · rw [if_neg (by omega)]
    by_cases g2 : s.size ≤ 40
    · rw [if_neg (by omega), if_pos (by omega), letter_is]
      simp only [Option.bind_some, spec_l00Word.j0, decide_eq_true g1, decide_eq_true g2, Bool.and_true]
      rw [spec_loop s hn (s.size - 1) k 1 (by omega) (by omega) (by omega)]
      obtain ⟨m, hm⟩ : ∃ m, s.size = m + 1 := ⟨s.size - 1, by omega⟩
      rw [hm]
      simp only [allOK, Nat.add_sub_cancel]
      cases lt (bt s 0) <;> simp
    · rw [if_pos (by omega)]
      simp only [Option.bind_some, spec_l00Word.j0, decide_eq_false g2, Bool.and_false]
      rfl
  · rw [if_pos (by omega)]
    simp only [Option.bind_some, spec_l00Word.j0, decide_eq_false g1, Bool.and_false, Bool.false_and]
    rfl

/-- YOURS: ∀ (a0 : ByteArray), a0.size ≤ 140737488351232 → ∃ k, laws_FnExactNameOK.f k a0 = some true
What it reaches (each with k first where it has rounds; `.mono`: more rounds tell the same; `.l0`, ..: its loops, with `.mono_l`): spec_l00Letter.f, spec_l00Digit.f, spec_l00Word.f, spec_NameOK.f, impl_within.f, impl_NameOK.f, laws_FnExactNameOK.f -/
theorem FnExactNameOK : laws_FnExactNameOK.Pure := by
  intro s hn
  refine ⟨s.size + 3, ?_⟩
  unfold laws_FnExactNameOK.f
  by_cases g : (s.size : Int) > 1048576
  · rw [if_pos g]
  · rw [if_neg g, spec_is s hn _ (by omega)]
    unfold impl_NameOK.f
    rw [impl_loop s hn s.size _ 0 (by omega) (by omega) (by omega)]
    simp

end Go.Proofs.Ytlmbofklbjloeaa.Pure
