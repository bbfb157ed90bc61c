/- What the program's CodeOf and the reference's CodeOf answer, for every text, in every world that holds the table of words: the number of the first word that it is, or -1. No conditions but that table and the text's length. -/
import Derived.Test.YtlmbofklbjloeaaDoorWord
import Derived.LoopTactic
import Derived.Below
import Derived.Lib.Hide
set_option linter.unusedVariables false
set_option linter.unusedSimpArgs false
namespace Go.Proofs.YtlmbofklbjloeaaDoor.word
open Go.ChangeShapes Go.WideShapes Go.ChangeAt Go.RowKit

/-- the first of d words from i on that s is -/
def first (s : ByteArray) : Nat → Nat → Int
  | 0, _ => -1
  | d + 1, i => if (wd i).toList = s.toList then i else first s d (i + 1)
def codeOf (s : ByteArray) : Int := first s 13 0
theorem first_step (s : ByteArray) (k : Nat) (h : k < 13) : (wd k).toList ≠ s.toList → first s (13 - k) k = first s (13 - (k + 1)) (k + 1) := by
  intro hne
  obtain ⟨d, hd⟩ : ∃ d, 13 - k = d + 1 := ⟨12 - k, by omega⟩
  have : 13 - (k + 1) = d := by omega
  rw [this, hd, first, if_neg hne]
theorem first_here (s : ByteArray) (k : Nat) (h : k < 13) : (wd k).toList = s.toList → first s (13 - k) k = k := by
  intro he
  obtain ⟨d, hd⟩ : ∃ d, 13 - k = d + 1 := ⟨12 - k, by omega⟩
  rw [hd, first, if_pos he]

theorem ret_int {k : IntKind} {a b : Int} (h : a = b) : Ending.returned (.int k a) = .returned (.int k b) := by rw [h]

theorem num_succ (k : Nat) : (.int .i64 ((k : Int) + 1) : Value) = .int .i64 ((k + 1 : Nat) : Int) := rfl

set_option maxHeartbeats 4000000 in
theorem specOf (s : ByteArray) (w : World) : Calls Tryd.prog 7 #[.string s] w fun e w' => e = .returned (.int .i64 (codeOf s)) ∧ Below w.heap.size w w' := by
  go_enter Tryd.func7, Tryd.ntmps7
  go_wp2_with fail
  go_loopw [3] (fun i wr => ∃ k : Nat, k ≤ 13 ∧ i = .int .i64 k ∧ Hid (codeOf s = first s (13 - k) k) ∧ Below w.heap.size w wr) (fun i _ => 13 - (intOf i).toNat)
  case atStart => exact ⟨0, by omega, rfl, Lib.hid rfl, Below.refl _ _⟩
  case round =>
    obtain ⟨k, hk, rfl, hf, hg⟩ := hrel
    by_cases hlt : k < 13
    · by_cases he : (wd k).toList = s.toList
      · have hr := Lib.hid (hf.out.trans (first_here s k hlt he))
        have he' : ((wd k).toList == s.toList) = true := by simpa using he
        clear hf he
        go_wp2_with (go_at_call 5; (with_reducible refine (spec_in k _ hlt).mono ?_); rintro e w' ⟨rfl, hg'⟩)
        go_ret
        exact ⟨ret_int hr.out.symm, hg.trans (hg'.mono hg.size)⟩
      · have hr := Lib.hid (hf.out.trans (first_step s k hlt he))
        have he' : ((wd k).toList == s.toList) = false := by simpa using he
        clear hf he
        go_wp2_with (go_at_call 5; (with_reducible refine (spec_in k _ hlt).mono ?_); rintro e w' ⟨rfl, hg'⟩)
        go_roundw
        case rel => exact ⟨k + 1, by omega, by go_num, hr, hg.trans (hg'.mono hg.size)⟩
        case measure => simp [intOf]; omega
    · have hr : codeOf s = -1 := by
        have hk' : k = 13 := by omega
        have := hf.out
        rw [hk'] at this
        exact this
      have hr' := Lib.hid hr
      clear hr hf
      go_wp2
      go_ret
      exact ⟨ret_int hr'.out.symm, hg⟩

set_option maxHeartbeats 4000000 in
theorem indexOf (s : ByteArray) (w : World) (hT : Table w) : Calls Tryd.prog 10 #[.slice (some ⟨0, 0, none⟩) 13 13, .string s] w fun e w' => e = .returned (.int .i64 (codeOf s)) ∧ w = w' := by
  have HT := Lib.hid hT
  clear hT
  go_enter Tryd.func10, Tryd.ntmps10
  go_wp2_with fail
  go_loop [4, 8] (fun i j => ∃ k : Nat, k ≤ 13 ∧ j = .int .i64 k ∧ (∃ v, i = v) ∧ Hid (codeOf s = first s (13 - k) k)) (fun _ i => 13 - (intOf i).toNat)
  case atStart => exact ⟨0, by omega, rfl, ⟨_, rfl⟩, Lib.hid rfl⟩
  case round =>
    obtain ⟨k, hk, rfl, ⟨v, rfl⟩, hf⟩ := hrel
    by_cases hlt : k < 13
    · have hc : w.cell? ⟨0, 0 + k, none⟩ = some (.string (wd k)) := by rw [Nat.zero_add]; exact HT.out k hlt
      have hc2 : w.cell? ⟨0, k, none⟩ = some (.string (wd k)) := HT.out k hlt
      by_cases he : (wd k).toList = s.toList
      · have hr := Lib.hid (hf.out.trans (first_here s k hlt he))
        have he' : ((wd k).toList == s.toList) = true := by simpa using he
        have he2 : (s.toList == (wd k).toList) = true := by simpa using he.symm
        clear hf he
        go_wp2
        go_ret
        exact ⟨ret_int hr.out.symm, rfl⟩
      · have hr := Lib.hid (hf.out.trans (first_step s k hlt he))
        have he' : ((wd k).toList == s.toList) = false := by simpa using he
        have he2 : (s.toList == (wd k).toList) = false := by simpa using fun h => he h.symm
        clear hf he
        go_wp2
        go_round
        case rel => exact ⟨k + 1, by omega, by go_num, ⟨_, rfl⟩, hr⟩
        case measure => simp [intOf]; omega
    · have hr : codeOf s = -1 := by
        have hk' : k = 13 := by omega
        have := hf.out
        rw [hk'] at this
        exact this
      have hr' := Lib.hid hr
      clear hr hf
      go_wp2
      go_ret
      exact ⟨ret_int hr'.out.symm, rfl⟩

set_option maxHeartbeats 4000000 in
theorem implOf (s : ByteArray) (w : World) (hT : Table w) : Calls Tryd.prog 8 #[.string s] w fun e w' => e = .returned (.int .i64 (codeOf s)) ∧ w = w' := by
  have hI := indexOf s w hT
  have HT := Lib.hid hT
  clear hT
  go_enter Tryd.func8, Tryd.ntmps8
  go_wp2_with (go_at_call 10; (with_reducible refine hI.mono ?_); rintro e w' ⟨rfl, rfl⟩)
  go_ret
  exact ⟨rfl, rfl⟩

end Go.Proofs.YtlmbofklbjloeaaDoor.word
