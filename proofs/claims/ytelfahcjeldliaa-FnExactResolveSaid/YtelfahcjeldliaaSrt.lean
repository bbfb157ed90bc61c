/- Literals in order: what the sorting of literals computes, in plain Lean. No conditions. -/
import Derived.Test.YtelfahcjeldliaaWWords
import Derived.Lib.RowBridge
set_option linter.unusedVariables false
namespace Go.Proofs.YtelfahcjeldliaaW.PrintWords
/-- a literal's place in the order -/
def rk (x : Int) : Int := if x < 0 then 1 - 2 * x else 2 * x
def inR (x : Int) : Prop := -1000000 ≤ x ∧ x ≤ 1000000
instance (x : Int) : Decidable (inR x) := inferInstanceAs (Decidable (_ ∧ _))
theorem rk_inj {x y : Int} (h : rk x = rk y) : x = y := by unfold rk at h; split at h <;> split at h <;> omega
/-- how many of the first stand ahead of c -/
def cntB (c : Int) : List Int → Nat
  | [] => 0
  | y :: r => if rk y < rk c then cntB c r + 1 else 0
def insR (c : Int) (l : List Int) : List Int := if l[cntB c l]? = some c then l else l.take (cntB c l) ++ [c] ++ l.drop (cntB c l)
def insAll : List Int → List Int → List Int
  | [], o => o
  | c :: r, o => insAll r (insR c o)
/-- a literal stands behind its opposite -/
def oppB : List Int → Bool
  | [] => false
  | [_] => false
  | x :: y :: r => (x == -y) || oppB (y :: r)
theorem cntB_le (c : Int) : ∀ l : List Int, cntB c l ≤ l.length
  | [] => Nat.le_refl _
  | y :: r => by
    rw [cntB]
    have := cntB_le c r
    split <;> simp <;> omega
theorem cntB_step {c : Int} {l : List Int} {j : Nat} (hj : j < l.length) (h : rk l[j] < rk c) : j + cntB c (l.drop j) = j + 1 + cntB c (l.drop (j + 1)) := by
  rw [List.drop_eq_getElem_cons hj, cntB, if_pos h]
  omega
theorem cntB_stop {c : Int} {l : List Int} {j : Nat} (hj : j < l.length) (h : ¬ rk l[j] < rk c) : cntB c (l.drop j) = 0 := by
  rw [List.drop_eq_getElem_cons hj, cntB, if_neg h]
theorem insR_len (c : Int) (l : List Int) : (insR c l).length ≤ l.length + 1 := by
  unfold insR
  have := cntB_le c l
  split
  · omega
  · simp only [List.length_append, List.length_take, List.length_drop, List.length_cons, List.length_nil]; omega
theorem insR_in {c : Int} {l : List Int} (hc : inR c) (hl : ∀ x ∈ l, inR x) : ∀ x ∈ insR c l, inR x := by
  intro x hx
  unfold insR at hx
  split at hx
  · exact hl x hx
  · simp only [List.mem_append, List.mem_singleton] at hx
    rcases hx with (h | h) | h
    · exact hl x (List.mem_of_mem_take h)
    · subst h; exact hc
    · exact hl x (List.mem_of_mem_drop h)
theorem oppB_step {l : List Int} {j : Nat} (hj : j + 1 < l.length) : oppB (l.drop j) = ((l[j] == -l[j + 1]) || oppB (l.drop (j + 1))) := by
  rw [List.drop_eq_getElem_cons (by omega : j < l.length), List.drop_eq_getElem_cons hj]
  rfl
theorem oppB_end {l : List Int} {j : Nat} (hj : l.length ≤ j + 1) : oppB (l.drop j) = false := by
  rcases h : l.drop j with _ | ⟨x, _ | ⟨y, r⟩⟩
  · rfl
  · rfl
  · have := congrArg List.length h
    rw [List.length_drop] at this
    simp only [List.length_cons] at this
    omega
end Go.Proofs.YtelfahcjeldliaaW.PrintWords
