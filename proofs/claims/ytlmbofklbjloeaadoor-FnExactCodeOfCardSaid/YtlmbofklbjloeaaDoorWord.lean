/- What the program's CodeWord and the reference's CodeWord answer, for every number, in every world that holds the table of words. No conditions but that table. -/
import Derived.Test.YtlmbofklbjloeaaDoorCards
import Derived.Test.YtlmbofklbjloeaaDoorTie
import Derived.WalkKit
import Derived.ProofKit
import Derived.OpenShut
import Derived.Deep.DeepHandedRow
import Derived.Lib.LaidTab
import Derived.Below
set_option linter.unusedVariables false
set_option linter.unusedSimpArgs false
namespace Go.Proofs.YtlmbofklbjloeaaDoor.word
open Go.ChangeShapes Go.WideShapes Go.ChangeAt Go.RowKit

def words : List (List UInt8) := [[111, 107], [98, 97, 100], [108, 111, 110, 103], [102, 111, 114, 109], [115, 121, 110, 116, 97, 120], [114, 97, 110, 103, 101], [110, 111, 110, 101], [109, 97, 110, 121], [115, 116, 97, 116, 101], [110, 97, 109, 101], [116, 119, 105, 99, 101], [115, 105, 122, 101], [108, 111, 111, 112]]
/-- word number n -/
def wd (n : Nat) : ByteArray := ⟨(words.getD n []).toArray⟩
/-- the table's cells hold the words -/
def Table (w : World) : Prop := ∀ n, n < 13 → w.cell? ⟨0, n, none⟩ = some (.string (wd n))

theorem cases13 {c : Int} (h0 : 0 ≤ c) (h : c ≤ 12) : c = 0 ∨ c = 1 ∨ c = 2 ∨ c = 3 ∨ c = 4 ∨ c = 5 ∨ c = 6 ∨ c = 7 ∨ c = 8 ∨ c = 9 ∨ c = 10 ∨ c = 11 ∨ c = 12 := by omega

set_option maxHeartbeats 4000000 in
theorem within_in (c : Int) (w : World) (h0 : 0 ≤ c) (h : c ≤ 12) : Calls Tryd.prog 9 #[.int .i64 c, .int .i64 0, .int .i64 12] w fun e w' => e = .returned (.bool true) ∧ w = w' := by
  go_enter Tryd.func9, Tryd.ntmps9
  go_wp2
  go_ret
  exact ⟨rfl, rfl⟩
set_option maxHeartbeats 4000000 in
theorem within_out (c : Int) (w : World) (h : c < 0 ∨ 12 < c) : Calls Tryd.prog 9 #[.int .i64 c, .int .i64 0, .int .i64 12] w fun e w' => e = .returned (.bool false) ∧ w = w' := by
  by_cases h0 : 0 ≤ c
  · have h1 : ¬ c ≤ 12 := by omega
    go_enter Tryd.func9, Tryd.ntmps9
    go_wp2
    go_ret
    exact ⟨rfl, rfl⟩
  · clear h
    go_enter Tryd.func9, Tryd.ntmps9
    go_wp2
    go_ret
    exact ⟨rfl, rfl⟩

set_option maxHeartbeats 4000000 in
theorem spec_out (c : Int) (w : World) (h : c < 0 ∨ 12 < c) : Calls Tryd.prog 5 #[.int .i64 c] w fun e w' => e = .returned (.string ⟨#[]⟩) ∧ Below w.heap.size w w' := by
  by_cases h0 : c < 0
  · go_enter Tryd.func5, Tryd.ntmps5
    go_wp2
    go_ret
    exact ⟨rfl, by repeat (first | exact Below.refl _ _ | apply Below.drew | refine Below.alloc ?_ (by simp) _)⟩
  · have h1 : 13 ≤ c := by omega
    clear h
    go_enter Tryd.func5, Tryd.ntmps5
    go_wp2
    go_ret
    exact ⟨rfl, by repeat (first | exact Below.refl _ _ | apply Below.drew | refine Below.alloc ?_ (by simp) _)⟩
set_option maxHeartbeats 4000000 in
theorem spec_in (n : Nat) (w : World) (h : n < 13) : Calls Tryd.prog 5 #[.int .i64 n] w fun e w' => e = .returned (.string (wd n)) ∧ Below w.heap.size w w' := by
  have hn : n = 0 ∨ n = 1 ∨ n = 2 ∨ n = 3 ∨ n = 4 ∨ n = 5 ∨ n = 6 ∨ n = 7 ∨ n = 8 ∨ n = 9 ∨ n = 10 ∨ n = 11 ∨ n = 12 := by omega
  rcases hn with rfl | rfl | rfl | rfl | rfl | rfl | rfl | rfl | rfl | rfl | rfl | rfl | rfl
  all_goals
    go_enter Tryd.func5, Tryd.ntmps5
    go_wp2
    go_ret
    exact ⟨rfl, by repeat (first | exact Below.refl _ _ | apply Below.drew | refine Below.alloc ?_ (by simp) _)⟩

set_option maxHeartbeats 4000000 in
theorem impl_out (c : Int) (w : World) (h : c < 0 ∨ 12 < c) : Calls Tryd.prog 6 #[.int .i64 c] w fun e w' => e = .returned (.string ⟨#[]⟩) ∧ w = w' := by
  go_enter Tryd.func6, Tryd.ntmps6
  go_wp2_with (go_at_call 9; (with_reducible refine (within_out _ _ h).mono ?_); rintro e w' ⟨rfl, rfl⟩)
  go_ret
  exact ⟨rfl, rfl⟩
set_option maxHeartbeats 4000000 in
theorem impl_in (n : Nat) (w : World) (h : n < 13) (hT : Table w) : Calls Tryd.prog 6 #[.int .i64 n] w fun e w' => e = .returned (.string (wd n)) ∧ w = w' := by
  have hc := hT n h
  have hn : n = 0 ∨ n = 1 ∨ n = 2 ∨ n = 3 ∨ n = 4 ∨ n = 5 ∨ n = 6 ∨ n = 7 ∨ n = 8 ∨ n = 9 ∨ n = 10 ∨ n = 11 ∨ n = 12 := by omega
  clear hT
  rcases hn with rfl | rfl | rfl | rfl | rfl | rfl | rfl | rfl | rfl | rfl | rfl | rfl | rfl
  all_goals
    go_enter Tryd.func6, Tryd.ntmps6
    go_wp2_with (go_at_call 9; (with_reducible refine (within_in _ _ (by decide) (by decide)).mono ?_); rintro e w' ⟨rfl, rfl⟩)
    go_ret
    exact ⟨rfl, rfl⟩

end Go.Proofs.YtlmbofklbjloeaaDoor.word
