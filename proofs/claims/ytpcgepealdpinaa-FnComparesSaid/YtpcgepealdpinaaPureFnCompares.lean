/- FnCompares: the pure statement behind the law: four bits compared, and counted; all the cases are reckoned by the kernel. No conditions. -/
import Derived.Test.YtpcgepealdpinaaDefFnCompares
import Derived.Test.YtpcgepealdpinaaPlain
import Derived.KernelRfl
set_option linter.unusedVariables false
set_option maxRecDepth 100000
namespace Go.Proofs.Ytpcgepealdpinaa.Pure
open Go.RowKit Go.Proofs.YtpcgepealdpinaaW.PrintWords Go.Proofs.YtpcgepealdpinaaW.PrintLast Go.Proofs.Ytpcgepealdpinaa.Plain Go.Proofs.Ytpcgepealdpinaa Go.Proofs.Ytpcgepealdpinaa.PFnCompares
/-- a byte's bounds give what 'at' answers -/
theorem rd8 {l : List Int} (hl : ∀ x ∈ l, WF8 x) {i : Int} (h0 : 0 ≤ i) (h1 : i < (l.length : Int)) : 0 ≤ rd l i ∧ rd l i ≤ 255 := by
  have h2 : i.toNat < l.length := by omega
  have e : rd l i = l[i.toNat] := by
    show l.getD i.toNat 0 = _
    rw [List.getD_eq_getElem?_getD, List.getElem?_eq_getElem h2]
    rfl
  rw [e]
  exact hl _ (List.getElem_mem h2)
theorem at_ok {l : List Int} (hl : ∀ x ∈ l, WF8 x) {a1 a2 : Int} (h0 : 0 ≤ a1) (h1 : a1 ≤ 2) (h2 : 2 ≤ a2) : ∃ n, laws_at.f l a1 a2 = some n ∧ 0 ≤ n ∧ n < a2 := by
  unfold laws_at.f
  rw [if_neg (by omega)]
  by_cases hz : (l.length : Int) = 0
  · rw [if_pos hz, if_neg (by omega), w64 (by omega) (by omega)]
    exact ⟨_, rfl, Int.tmod_nonneg _ (by omega), Int.tmod_lt_of_pos _ (by omega)⟩
  · have hp : 0 < (l.length : Int) := by omega
    have t0 : 0 ≤ Int.tmod a1 (l.length : Int) := Int.tmod_nonneg _ h0
    have t1 : Int.tmod a1 (l.length : Int) < (l.length : Int) := Int.tmod_lt_of_pos _ hp
    have w1 : wrap64 (a1 + 1) = a1 + 1 := w64 (by omega) (by omega)
    have s0 : 0 ≤ Int.tmod (a1 + 1) (l.length : Int) := Int.tmod_nonneg _ (by omega)
    have s1 : Int.tmod (a1 + 1) (l.length : Int) < (l.length : Int) := Int.tmod_lt_of_pos _ hp
    rw [if_neg hz, w1, if_pos t0, if_pos t1, if_pos s0, if_pos s1, if_neg (by omega)]
    obtain ⟨r0, r1⟩ := rd8 hl t0 t1
    obtain ⟨q0, q1⟩ := rd8 hl s0 s1
    have d0 : 0 ≤ Int.tdiv a1 (l.length : Int) := Int.tdiv_nonneg h0 (by omega)
    have d1 : Int.tdiv a1 (l.length : Int) ≤ a1 := Int.tdiv_le_self _ h0
    generalize rd l (Int.tmod a1 (l.length : Int)) = x at *
    generalize rd l (Int.tmod (a1 + 1) (l.length : Int)) = y at *
    generalize Int.tdiv a1 (l.length : Int) = z at *
    refine ⟨_, rfl, Int.tmod_nonneg _ ?_, Int.tmod_lt_of_pos _ (by omega)⟩
    rw [w64 (x := x) (by omega) (by omega), w64 (x := x * 31) (by omega) (by omega), w64 (x := y) (by omega) (by omega), w64 (x := x * 31 + y) (by omega) (by omega), w64 (x := z) (by omega) (by omega), w64 (by omega) (by omega)]
    omega
/-- one comparing, one reading, one counting, with enough rounds -/
def partE (k : Nat) (n m : Int) : Option Bool :=
  (impl_EqualEx.f k (rowA n 4) (rowB 4)).bind fun x => (laws_values.f k m 4).bind fun vs => (impl_EvalEx.f k x.1 x.2.1 x.2.2.1 vs).bind fun s =>
    if x.2.2.2 = 0 ∧ s = (n == m, 0) then some true else none
def partL (k : Nat) (n m : Int) : Option Bool :=
  (impl_LessEx.f k (rowA n 4) (rowB 4)).bind fun x => (laws_values.f k m 4).bind fun vs => (impl_EvalEx.f k x.1 x.2.1 x.2.2.1 vs).bind fun s =>
    if x.2.2.2 = 0 ∧ s = (decide (n < m), 0) then some true else none
def partM (k : Nat) (q m : Int) : Option Bool :=
  (impl_AtMostEx.f k (wrap64 (q - 1)) (rowB 4)).bind fun x => (laws_values.f k m 4).bind fun vs => (impl_EvalEx.f k x.1 x.2.1 x.2.2.1 vs).bind fun s =>
    if x.2.2.2 = 0 ∧ s = (decide (manyE m ≤ wrap64 (q - 1)), 0) then some true else none
def allOf (f : Int → Int → Option Bool) (a b : Nat) : Bool := (List.range a).all fun n => (List.range b).all fun m => f (n : Int) (m : Int) == some true
theorem allE : allOf (partE 200) 16 16 = true := by kernel_rfl
theorem allL : allOf (partL 200) 16 16 = true := by kernel_rfl
theorem allM : allOf (partM 200) 6 16 = true := by kernel_rfl
theorem of_all {f : Int → Int → Option Bool} {a b : Nat} (h : allOf f a b = true) {n m : Int} (h0 : 0 ≤ n) (h1 : n < (a : Int)) (g0 : 0 ≤ m) (g1 : m < (b : Int)) : f n m = some true := by
  have h2 := List.all_eq_true.1 h n.toNat (List.mem_range.2 (by omega))
  have h3 := List.all_eq_true.1 h2 m.toNat (List.mem_range.2 (by omega))
  rw [show ((n.toNat : Nat) : Int) = n by omega, show ((m.toNat : Nat) : Int) = m by omega] at h3
  exact eq_of_beq h3
theorem FnCompares : laws_FnCompares.Pure := by
  intro l0 l1 h0 h1
  refine ⟨200, ?_⟩
  unfold laws_FnCompares.f
  by_cases hb : (l0.length : Int) > 1048576
  · rw [if_pos hb]
  rw [if_neg hb]
  by_cases hb1 : (l1.length : Int) > 1048576
  · rw [if_pos hb1]
  rw [if_neg hb1]
  obtain ⟨n, en, n0, n1⟩ := at_ok (a1 := 0) (a2 := 16) h1.2 (by omega) (by omega) (by omega)
  obtain ⟨m, em, m0, m1⟩ := at_ok (a1 := 1) (a2 := 16) h0.2 (by omega) (by omega) (by omega)
  obtain ⟨q, eq, q0, q1⟩ := at_ok (a1 := 2) (a2 := 6) h1.2 (by omega) (by omega) (by omega)
  have pe := of_all allE n0 n1 m0 m1
  have pl := of_all allL n0 n1 m0 m1
  have pm := of_all allM q0 q1 m0 m1
  unfold partE at pe
  unfold partL at pl
  unfold partM at pm
  obtain ⟨x, ex, pe1⟩ := Option.bind_eq_some_iff.1 pe
  obtain ⟨vs, ev, pe2⟩ := Option.bind_eq_some_iff.1 pe1
  obtain ⟨s, es, pe3⟩ := Option.bind_eq_some_iff.1 pe2
  obtain ⟨y, ey, pl1⟩ := Option.bind_eq_some_iff.1 pl
  obtain ⟨vs1, ev1, pl2⟩ := Option.bind_eq_some_iff.1 pl1
  obtain rfl : vs = vs1 := Option.some.inj (ev.symm.trans ev1)
  obtain ⟨t, et, pl3⟩ := Option.bind_eq_some_iff.1 pl2
  obtain ⟨z, ez, pm1⟩ := Option.bind_eq_some_iff.1 pm
  obtain ⟨vs2, ev2, pm2⟩ := Option.bind_eq_some_iff.1 pm1
  obtain rfl : vs = vs2 := Option.some.inj (ev.symm.trans ev2)
  obtain ⟨u, eu, pm3⟩ := Option.bind_eq_some_iff.1 pm2
  have fe : x.2.2.2 = 0 ∧ s = (n == m, 0) := by by_cases c : x.2.2.2 = 0 ∧ s = (n == m, 0); exact c; rw [if_neg c] at pe3; cases pe3
  have fl : y.2.2.2 = 0 ∧ t = (decide (n < m), 0) := by by_cases c : y.2.2.2 = 0 ∧ t = (decide (n < m), 0); exact c; rw [if_neg c] at pl3; cases pl3
  have fm : z.2.2.2 = 0 ∧ u = (decide (manyE m ≤ wrap64 (q - 1)), 0) := by by_cases c : z.2.2.2 = 0 ∧ u = (decide (manyE m ≤ wrap64 (q - 1)), 0); exact c; rw [if_neg c] at pm3; cases pm3
  rw [en, Option.bind_some, em, Option.bind_some, ex, Option.bind_some, ey, Option.bind_some, ev, Option.bind_some, es, Option.bind_some, et, Option.bind_some, eq, Option.bind_some, ez, Option.bind_some, eu, Option.bind_some]
  exact if_pos ⟨fe.1, fl.1, fe.2, fl.2, fm.1, fm.2⟩
end Go.Proofs.Ytpcgepealdpinaa.Pure
