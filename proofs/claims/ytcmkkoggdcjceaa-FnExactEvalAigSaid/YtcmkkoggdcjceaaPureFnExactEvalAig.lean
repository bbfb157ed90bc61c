/- FnExactEvalAig: the pure statement behind the law: the program comes to the same values of literals of a circuit as the reference, in memory of its own, and leaves what it was given. No conditions. -/
import Derived.Test.YtcmkkoggdcjceaaDefFnExactEvalAig
import Derived.Test.YtcmkkoggdcjceaaPlain
set_option linter.unusedVariables false
set_option linter.unusedSimpArgs false
namespace Go.Proofs.Ytcmkkoggdcjceaa.Pure
open Go.RowKit Go.Proofs.Ytcmkkoggdcjceaa Go.Proofs.Ytcmkkoggdcjceaa.PFnExactEvalAig Go.Proofs.YtcmkkoggdcjceaaW.PrintWords Go.Proofs.YtcmkkoggdcjceaaW.PrintLast Go.Proofs.Ytcmkkoggdcjceaa.Plain

def eqg (a b : S114) : Bool := a.f0 == b.f0 && (a.f1 == b.f1)
theorem eqg_comm (a b : S114) : (a.f0 == b.f0 && (a.f1 == b.f1)) = eqg b a := by
  unfold eqg
  rw [Bool.eq_iff_iff]
  simp
  constructor
  · rintro ⟨h1, h2⟩; exact ⟨h1.symm, h2.symm⟩
  · rintro ⟨h1, h2⟩; exact ⟨h1.symm, h2.symm⟩
/-- one of d gates from k on is g -/
def hit (gs : List S114) (g : S114) : Nat → Nat → Bool
  | 0, _ => false
  | d + 1, k => eqg (rd_T114 gs (k : Int)) g || hit gs g d (k + 1)
def bad (a i : Int) (g : S114) : Bool := decide (g.f0 < 2) || (decide (g.f1 ≤ g.f0) || (decide (g.f1 ≥ wrap64 (2 * wrap64 (wrap64 (a + 1) + i))) || (wrap64 (Int.tdiv g.f0 2) == wrap64 (Int.tdiv g.f1 2))))
/-- d gates from i on are right -/
def good (a : Int) (gs : List S114) : Nat → Nat → Bool
  | 0, _ => true
  | d + 1, i => !(bad a i (rd_T114 gs (i : Int))) && (!(hit gs (rd_T114 gs (i : Int)) i 0) && good a gs d (i + 1))

theorem spec_in (a : Int) (gs : List S114) (hl : gs.length ≤ 400) (g : S114) (i : Nat) (hi : i < gs.length) (r : Bool) (hr : Ev (fun k => spec_AigOK.l0 k ((i : Int) + 1) a gs) r) (d : Nat) : ∀ k0 : Nat, k0 + d = i →
    Ev (fun k => spec_AigOK.l1 k (i : Int) (k0 : Int) a gs g.f0 g.f1) (!(hit gs g d k0) && r) := by
  induction d with
  | zero =>
    intro k0 hk
    refine stp (fun _ => spec_AigOK.l1.eq_2 ..) (ifn (by omega) ?_)
    rw [up (by omega) (by omega : (i : Int) < (gs.length : Int)) (by omega)]
    simpa [hit] using hr
  | succ d ih =>
    intro k0 hk
    refine stp (fun _ => spec_AigOK.l1.eq_2 ..) (ifp (by omega) (ifp (by omega) (ifp (by omega) ?_)))
    rw [up (by omega) (by omega : (k0 : Int) < (gs.length : Int)) (by omega)]
    have hih := ih (k0 + 1) (by omega)
    rw [show ((k0 + 1 : Nat) : Int) = (k0 : Int) + 1 by omega] at hih
    simp only [hit]
    cases he : eqg (rd_T114 gs (k0 : Int)) g with
    | true => exact ifp he (sm _)
    | false =>
      refine ifn (by show ¬ (eqg _ _ = true); rw [he]; simp) ?_
      simpa using hih

theorem spec_loop (a : Int) (gs : List S114) (hl : gs.length ≤ 400) (d : Nat) : ∀ i : Nat, i + d = gs.length → Ev (fun k => spec_AigOK.l0 k (i : Int) a gs) (good a gs d i) := by
  induction d with
  | zero =>
    intro i hi
    exact stp (fun _ => spec_AigOK.l0.eq_2 ..) (ifn (by omega) (sm _))
  | succ d ih =>
    intro i hi
    have hih := ih (i + 1) (by omega)
    rw [show ((i + 1 : Nat) : Int) = (i : Int) + 1 by omega] at hih
    have hin := spec_in a gs hl (rd_T114 gs (i : Int)) i (by omega) _ hih i 0 (by omega)
    refine stp (fun _ => spec_AigOK.l0.eq_2 ..) (ifp (by omega) (ifp (by omega) ?_))
    simp only [good]
    generalize rd_T114 gs (i : Int) = g at *
    have hbad : ∀ b : Bool, b = bad a i g → Ev (fun k => spec_AigOK.j2 k (i : Int) b a gs g.f0 g.f1) (!(bad a i g) && (!(hit gs g i 0) && good a gs d (i + 1))) := by
      intro b hb
      subst hb
      refine stp (fun _ => spec_AigOK.j2.eq_2 ..) ?_
      cases hb : bad a i g with
      | true => exact ifp rfl (sm _)
      | false => exact ifn (by simp) (by simpa using hin)
    by_cases h1 : g.f0 < 2
    · exact ifp h1 (hbad true (by simp [bad, h1]))
    · refine ifn h1 ?_
      by_cases h2 : g.f1 ≤ g.f0
      · exact ifp h2 (hbad true (by simp [bad, h2]))
      · refine ifn h2 ?_
        by_cases h3 : g.f1 ≥ wrap64 (2 * wrap64 (wrap64 (a + 1) + (i : Int)))
        · exact ifp h3 (hbad true (by simp only [bad, decide_eq_true h3]; simp))
        · exact ifn h3 (hbad _ (by simp only [bad, decide_eq_false h1, decide_eq_false h2, decide_eq_false h3]; simp))

theorem index_loop (gs : List S114) (g : S114) (n : Nat) (hn : n ≤ gs.length) (hl : gs.length ≤ 400) (d : Nat) : ∀ k0 : Nat, k0 + d = n →
    ∃ r : Int, decide (r ≥ 0) = hit gs g d k0 ∧ Ev (fun k => impl_Gate_138.l0 k (gs.take n) ((gs.take n).length : Int) (k0 : Int) g.f0 g.f1) r := by
  have hlen : ((gs.take n).length : Int) = (n : Int) := by simp; omega
  induction d with
  | zero =>
    intro k0 hk
    exact ⟨-1, by simp [hit], stp (fun _ => impl_Gate_138.l0.eq_2 ..) (ifn (by omega) (sm _))⟩
  | succ d ih =>
    intro k0 hk
    obtain ⟨r, hr, hev⟩ := ih (k0 + 1) (by omega)
    rw [show ((k0 + 1 : Nat) : Int) = (k0 : Int) + 1 by omega] at hev
    have hrd : rd_T114 (gs.take n) (k0 : Int) = rd_T114 gs (k0 : Int) := by
      unfold rd_T114
      simp [List.getD, List.getElem?_take, show k0 < n by omega]
    simp only [hit]
    cases he : eqg (rd_T114 gs (k0 : Int)) g with
    | true =>
      refine ⟨k0, by simp, stp (fun _ => impl_Gate_138.l0.eq_2 ..) (ifp (by omega) (ifp (by omega) (ifp (by omega) (ifp ?_ (sm _)))))⟩
      rw [hrd, eqg_comm, he]
    | false =>
      refine ⟨r, by simpa using hr, stp (fun _ => impl_Gate_138.l0.eq_2 ..) (ifp (by omega) (ifp (by omega) (ifp (by omega) (ifn ?_ ?_))))⟩
      · rw [hrd, eqg_comm, he]; simp
      · rw [up (by omega) (by omega : (k0 : Int) < (gs.length : Int)) (by omega)]
        exact hev

theorem contains_is (gs : List S114) (g : S114) (n : Nat) (hn : n ≤ gs.length) (hl : gs.length ≤ 400) : Ev (fun k => impl_Gate_115.f k (gs.take n) g.f0 g.f1) (hit gs g n 0) := by
  obtain ⟨r, hr, hev⟩ := index_loop gs g n hn hl n 0 (by omega)
  rw [← hr]
  exact bnd hev (sm _)

theorem impl_loop (a : Int) (gs : List S114) (hl : gs.length ≤ 400) (d : Nat) : ∀ i : Nat, i + d = gs.length → Ev (fun k => impl_isAig.l0 k gs (gs.length : Int) (i : Int) a gs) (good a gs d i) := by
  induction d with
  | zero =>
    intro i hi
    exact stp (fun _ => impl_isAig.l0.eq_2 ..) (ifn (by omega) (sm _))
  | succ d ih =>
    intro i hi
    have hih := ih (i + 1) (by omega)
    rw [show ((i + 1 : Nat) : Int) = (i : Int) + 1 by omega] at hih
    have hc := contains_is gs (rd_T114 gs (i : Int)) i (by omega) hl
    refine stp (fun _ => impl_isAig.l0.eq_2 ..) (ifp (by omega) (ifp (by omega) (ifp (by omega) ?_)))
    simp only [good]
    generalize rd_T114 gs (i : Int) = g at *
    by_cases h1 : g.f0 < 2
    · refine ifp h1 ?_
      rw [show bad a i g = true by simp [bad, h1]]
      exact sm _
    · refine ifn h1 ?_
      by_cases h2 : g.f0 ≥ g.f1
      · refine ifp h2 ?_
        rw [show bad a i g = true by simp [bad, show g.f1 ≤ g.f0 from h2]]
        exact sm _
      · refine ifn h2 ?_
        have h2' : ¬ g.f1 ≤ g.f0 := h2
        by_cases h3 : g.f1 ≥ wrap64 (2 * wrap64 (wrap64 (a + 1) + (i : Int)))
        · refine ifp (by rw [Int.add_comm 1 a]; exact h3) ?_
          rw [show bad a i g = true by simp only [bad, decide_eq_true h3]; simp]
          exact sm _
        · refine ifn (by rw [Int.add_comm 1 a]; exact h3) ?_
          by_cases h4 : wrap64 (Int.tdiv g.f0 2) = wrap64 (Int.tdiv g.f1 2)
          · refine ifp h4 ?_
            rw [show bad a i g = true by simp only [bad, h4]; simp]
            exact sm _
          · refine ifn h4 (ifp (by omega) ?_)
            rw [show bad a i g = false by simp only [bad, decide_eq_false h1, decide_eq_false h2', decide_eq_false h3]; simpa using h4]
            rw [Int.toNat_natCast]
            refine bnd hc ?_
            rw [up (by omega) (by omega : (i : Int) < (gs.length : Int)) (by omega)]
            cases hh : hit gs g i 0 with
            | true => exact ifp rfl (sm _)
            | false => exact ifn (by simp) (by simpa using hih)

/-- What both answer. -/
def ans (a : Int) (gs : List S114) : Bool := decide (0 ≤ a) && (decide (a ≤ 12) && (decide (gs.length ≤ 400) && good a gs gs.length 0))

theorem spec_is (a : Int) (gs : List S114) : Ev (fun k => spec_AigOK.f k a gs) (ans a gs) := by
  have hin : spec_l01In.f a 0 12 = some (decide (0 ≤ a) && decide (a ≤ 12)) := by
    unfold spec_l01In.f
    by_cases h : a ≥ 0
    · rw [if_pos h, decide_eq_true h, Bool.true_and]
    · rw [if_neg h, decide_eq_false h, Bool.false_and]
  refine bnd0 hin ?_
  unfold ans
  cases h1 : decide (0 ≤ a) && decide (a ≤ 12) with
  | false =>
    refine ifn (by simp) (stp (fun _ => spec_AigOK.j0.eq_2 ..) (ifp rfl ?_))
    rw [← Bool.and_assoc, h1]
    exact sm _
  | true =>
    refine ifp rfl (stp (fun _ => spec_AigOK.j0.eq_2 ..) ?_)
    rw [← Bool.and_assoc, h1]
    by_cases h2 : gs.length ≤ 400
    · refine ifn (by simp; omega) ?_
      rw [decide_eq_true h2]
      exact spec_loop a gs h2 gs.length 0 (by omega)
    · refine ifp (by simp; omega) ?_
      rw [decide_eq_false h2]
      exact sm _
def conv (x : S133) : S114 := ⟨x.f0, x.f1⟩
theorem toS_is (l : List S133) (hl : l.length ≤ 17592186044416) : Ev (fun k => laws_toGateS.f k l) (l.map conv) := by
  refine evc (fun k => laws_toGateS.f.eq_1 ..) (ifp (by omega) (ifp (by omega) ?_))
  refine copy conv l (fun i out k => laws_toGateS.l0 k l out i) ?_ ?_ _ (by simp)
  · intro out
    refine stp (fun k => laws_toGateS.l0.eq_2 ..) (ifn (by omega) (sm _))
  · intro i out r x hx hlen hk
    have hi : i < l.length := (List.getElem?_eq_some_iff.1 hx).1
    refine stp (fun k => laws_toGateS.l0.eq_2 ..) (ifp (by omega) (ifp (by omega) ?_))
    rw [show rd_T133 l (i : Int) = x from getD_some hx, up (by omega) (by omega : (i : Int) < (l.length : Int)) (by omega)]
    refine bnd0 rfl (ifp (by omega) ?_)
    rw [Int.toNat_natCast]
    exact hk
theorem to_is (a : Int) (l : List S133) (hl : l.length ≤ 17592186044416) : Ev (fun k => laws_toAig.f k a l) (a, l.map conv) := bnd (toS_is l hl) (sm _)

theorem eqg_self (x : S114) : laws_eqGate.f x.f0 x.f1 x.f0 x.f1 = some true := by
  unfold laws_eqGate.f
  simp
theorem eqS_self (l : List S114) (hl : l.length ≤ 140737488351232) : Ev (fun k => laws_eqGateS.f k l l) true := by
  refine evc (fun k => laws_eqGateS.f.eq_1 ..) (ifp rfl ?_)
  refine same l (fun i k => laws_eqGateS.l0 k l l i) ?_ ?_
  · exact stp (fun k => laws_eqGateS.l0.eq_2 ..) (ifn (by omega) (sm _))
  · intro i x hx hk
    have hi : i < l.length := (List.getElem?_eq_some_iff.1 hx).1
    refine stp (fun k => laws_eqGateS.l0.eq_2 ..) (ifp (by omega) (ifp (by omega) (ifp (by omega) ?_)))
    rw [up (by omega) (by omega : (i : Int) < (l.length : Int)) (by omega)]
    exact bnd0 (eqg_self _) (ifp rfl hk)
theorem eq_self (a : Int) (l : List S114) (hl : l.length ≤ 140737488351232) : Ev (fun k => laws_eqAig.f k a l a l) true :=
  evc (fun k => laws_eqAig.f.eq_1 ..) (ifp rfl (bnd (eqS_self l hl) (ifp rfl (sm _))))

theorem in_is (x lo hi : Int) : spec_l01In.f x lo hi = some (decide (lo ≤ x) && decide (x ≤ hi)) := by
  unfold spec_l01In.f
  by_cases h : x ≥ lo
  · rw [if_pos h, decide_eq_true h, Bool.true_and]
  · rw [if_neg h, decide_eq_false h, Bool.false_and]
/-- what is left when a list is counted -/
theorem toI_is (l : List Int) (hl : l.length ≤ 35184372088832) : Ev (fun k => laws_toIntS.f k l) l := by
  refine evc (fun k => laws_toIntS.f.eq_1 ..) (ifp (by omega) (ifp (by omega) ?_))
  have := copy (fun x : Int => x) l (fun i out k => laws_toIntS.l0 k l out i) ?_ ?_ (List.replicate (l.length : Int).toNat 0) (by simp)
  · simpa using this
  · intro out
    exact stp (fun k => laws_toIntS.l0.eq_2 ..) (ifn (by omega) (sm _))
  · intro i out r x hx hlen hk
    have hi : i < l.length := (List.getElem?_eq_some_iff.1 hx).1
    refine stp (fun k => laws_toIntS.l0.eq_2 ..) (ifp (by omega) (ifp (by omega) (ifp (by omega) ?_)))
    rw [show rd l (i : Int) = x from getD_some hx, up (by omega) (by omega : (i : Int) < (l.length : Int)) (by omega), Int.toNat_natCast]
    exact hk
theorem eqI_self (l : List Int) (hl : l.length ≤ 140737488351232) : Ev (fun k => laws_eqIntS.f k l l) true := by
  refine evc (fun k => laws_eqIntS.f.eq_1 ..) (ifp rfl ?_)
  refine same l (fun i k => laws_eqIntS.l0 k l l i) ?_ ?_
  · exact stp (fun k => laws_eqIntS.l0.eq_2 ..) (ifn (by omega) (sm _))
  · intro i x hx hk
    have hi : i < l.length := (List.getElem?_eq_some_iff.1 hx).1
    refine stp (fun k => laws_eqIntS.l0.eq_2 ..) (ifp (by omega) (ifp (by omega) (ifp (by omega) (ifp rfl ?_))))
    rw [up (by omega) (by omega : (i : Int) < (l.length : Int)) (by omega)]
    exact hk
theorem toB_is (l : List Bool) (hl : l.length ≤ 281474976710656) : Ev (fun k => laws_toBoolS.f k l) l := by
  refine evc (fun k => laws_toBoolS.f.eq_1 ..) (ifp (by omega) (ifp (by omega) ?_))
  have := copy (fun x : Bool => x) l (fun i out k => laws_toBoolS.l0 k l out i) ?_ ?_ (List.replicate (l.length : Int).toNat false) (by simp)
  · simpa using this
  · intro out
    exact stp (fun k => laws_toBoolS.l0.eq_2 ..) (ifn (by omega) (sm _))
  · intro i out r x hx hlen hk
    have hi : i < l.length := (List.getElem?_eq_some_iff.1 hx).1
    refine stp (fun k => laws_toBoolS.l0.eq_2 ..) (ifp (by omega) (ifp (by omega) (ifp (by omega) ?_)))
    rw [show rdOf false l (i : Int) = x from getD_some hx, up (by omega) (by omega : (i : Int) < (l.length : Int)) (by omega), Int.toNat_natCast]
    exact hk
theorem eqB_self (l : List Bool) (hl : l.length ≤ 281474976710656) : Ev (fun k => laws_eqBoolS.f k l l) true := by
  refine evc (fun k => laws_eqBoolS.f.eq_1 ..) (ifp rfl ?_)
  refine same l (fun i k => laws_eqBoolS.l0 k l l i) ?_ ?_
  · exact stp (fun k => laws_eqBoolS.l0.eq_2 ..) (ifn (by omega) (sm _))
  · intro i x hx hk
    have hi : i < l.length := (List.getElem?_eq_some_iff.1 hx).1
    refine stp (fun k => laws_eqBoolS.l0.eq_2 ..) (ifp (by omega) (ifp (by omega) (ifp (by omega) (ifn (by simp) ?_))))
    rw [up (by omega) (by omega : (i : Int) < (l.length : Int)) (by omega)]
    exact hk
/-! the marks that a law writes into a row of its own, and what it reads back -/
def mk3 (k : Int) : Bool := Int.tmod k 3 == 0
theorem markB_is (l : List Bool) (k0 : Int) (h0 : 0 ≤ k0) (h1 : k0 + (l.length : Int) ≤ 1000000000000000000) : ∃ m : List Bool, m.length = l.length ∧ (∀ j : Nat, j < m.length → rdOf false m (j : Int) = mk3 (k0 + (j : Int))) ∧ Ev (fun k => laws_markBoolS.f k l k0) (k0 + (l.length : Int), m) := by
  have key : ∀ (d i : Nat) (x : List Bool), i + d = l.length → x.length = l.length → (∀ j : Nat, j < i → rdOf false x (j : Int) = mk3 (k0 + (j : Int))) → ∃ m : List Bool, m.length = l.length ∧ (∀ j : Nat, j < m.length → rdOf false m (j : Int) = mk3 (k0 + (j : Int))) ∧ Ev (fun k => laws_markBoolS.l0 k x (k0 + (i : Int)) (i : Int)) (k0 + (l.length : Int), m) := by
    intro d
    induction d with
    | zero =>
      intro i x hi hx hj
      obtain rfl : i = l.length := by omega
      exact ⟨x, hx, by rw [hx]; exact hj, stp (fun k => laws_markBoolS.l0.eq_2 ..) (ifn (by omega) (sm _))⟩
    | succ d ih =>
      intro i x hi hx hj
      obtain ⟨m, m1, m2, m3⟩ := ih (i + 1) (x.set i (mk3 (k0 + (i : Int)))) (by omega) (by simpa using hx) (by
        intro j hlt
        by_cases e : j = i
        · subst e
          unfold rdOf
          simp [List.getD, show j < x.length by omega]
        · have := hj j (by omega)
          unfold rdOf at this ⊢
          simp only [Int.toNat_natCast] at this ⊢
          rw [List.getD_eq_getElem?_getD, List.getElem?_set_ne (by omega), ← List.getD_eq_getElem?_getD]
          exact this)
      refine ⟨m, m1, m2, stp (fun k => laws_markBoolS.l0.eq_2 ..) (ifp (by omega) (ifp (by omega) ?_))⟩
      rw [up (by omega) (by omega : (i : Int) < (l.length : Int)) (by omega), w64 (by omega) (by omega), Int.toNat_natCast]
      rw [show ((i + 1 : Nat) : Int) = (i : Int) + 1 by omega, ← Int.add_assoc] at m3
      exact m3
  obtain ⟨m, m1, m2, m3⟩ := key l.length 0 l (by omega) rfl (fun j hj => absurd hj (Nat.not_lt_zero _))
  refine ⟨m, m1, m2, evc (fun k => laws_markBoolS.f.eq_1 ..) ?_⟩
  simpa using m3
theorem heldB_is (m : List Bool) (k0 : Int) (h0 : 0 ≤ k0) (h1 : k0 + (m.length : Int) ≤ 1000000000000000000) (hm : ∀ j : Nat, j < m.length → rdOf false m (j : Int) = mk3 (k0 + (j : Int))) : Ev (fun k => laws_heldBoolS.f k m k0) (k0 + (m.length : Int)) := by
  have key : ∀ (d i : Nat), i + d = m.length → Ev (fun k => laws_heldBoolS.l0 k m (k0 + (i : Int)) (i : Int)) (k0 + (m.length : Int)) := by
    intro d
    induction d with
    | zero =>
      intro i hi
      obtain rfl : i = m.length := by omega
      exact stp (fun k => laws_heldBoolS.l0.eq_2 ..) (ifn (by omega) (sm _))
    | succ d ih =>
      intro i hi
      have := ih (i + 1) (by omega)
      rw [show ((i + 1 : Nat) : Int) = (i : Int) + 1 by omega, ← Int.add_assoc] at this
      have e := hm i (by omega)
      refine stp (fun k => laws_heldBoolS.l0.eq_2 ..) (ifp (by omega) (ifp (by omega) (ifn ?_ ?_)))
      · rw [e]
        unfold mk3
        simp
      · rw [up (by omega) (by omega : (i : Int) < (m.length : Int)) (by omega), w64 (x := k0 + (i : Int) + 1) (by omega) (by omega)]
        exact this
  have := key m.length 0 (by omega)
  refine evc (fun k => laws_heldBoolS.f.eq_1 ..) ?_
  simpa using this
theorem markI_is (l : List Int) (k0 : Int) (h0 : 0 ≤ k0) (h1 : k0 + (l.length : Int) ≤ 1000000000000000000) : ∃ m : List Int, Ev (fun k => laws_markIntS.f k l k0) (k0 + (l.length : Int), m) := by
  have key : ∀ (d i : Nat) (x : List Int), i + d = l.length → x.length = l.length → ∃ m : List Int, Ev (fun k => laws_markIntS.l0 k x (k0 + (i : Int)) (i : Int)) (k0 + (l.length : Int), m) := by
    intro d
    induction d with
    | zero =>
      intro i x hi hx
      obtain rfl : i = l.length := by omega
      exact ⟨x, stp (fun k => laws_markIntS.l0.eq_2 ..) (ifn (by omega) (sm _))⟩
    | succ d ih =>
      intro i x hi hx
      obtain ⟨m, m3⟩ := ih (i + 1) (x.set i (k0 + (i : Int))) (by omega) (by simpa using hx)
      refine ⟨m, stp (fun k => laws_markIntS.l0.eq_2 ..) (ifp (by omega) (ifp (by omega) ?_))⟩
      rw [up (by omega) (by omega : (i : Int) < (l.length : Int)) (by omega), w64 (by omega) (by omega), Int.toNat_natCast]
      rw [show ((i + 1 : Nat) : Int) = (i : Int) + 1 by omega, ← Int.add_assoc] at m3
      exact m3
  obtain ⟨m, m3⟩ := key l.length 0 l (by omega) rfl
  refine ⟨m, evc (fun k => laws_markIntS.f.eq_1 ..) ?_⟩
  simpa using m3
theorem isAig_is (a : Int) (gs : List S114) : Ev (fun k => impl_isAig.f k a gs) (ans a gs) := by
  have hin : impl_within.f a 0 12 = some (decide (0 ≤ a) && decide (a ≤ 12)) := by
    unfold impl_within.f
    by_cases h : a ≥ 0
    · rw [if_pos h, decide_eq_true h, Bool.true_and]
    · rw [if_neg h, decide_eq_false h, Bool.false_and]
  refine bnd0 hin ?_
  unfold ans
  cases h1 : decide (0 ≤ a) && decide (a ≤ 12) with
  | false =>
    refine ifn (by simp) (stp (fun _ => impl_isAig.j0.eq_2 ..) (ifp rfl ?_))
    rw [← Bool.and_assoc, h1]
    exact sm _
  | true =>
    refine ifp rfl (stp (fun _ => impl_isAig.j0.eq_2 ..) ?_)
    rw [← Bool.and_assoc, h1]
    by_cases h2 : gs.length ≤ 400
    · refine ifn (by simp; omega) ?_
      rw [decide_eq_true h2]
      exact impl_loop a gs h2 gs.length 0 (by omega)
    · refine ifp (by simp; omega) ?_
      rw [decide_eq_false h2]
      exact sm _
theorem lit_is (ns : List Bool) (x : Int) : spec_l04Literal.f ns x = litO ns x := rfl
theorem litO_some (ns : List Bool) (x : Int) (h0 : 0 ≤ x) (h1 : x < 2 * (ns.length : Int)) (h2 : ns.length ≤ 100000) : ∃ b, litO ns x = some b := by
  have e : Int.tdiv x 2 = x / 2 := Int.tdiv_eq_ediv_of_nonneg h0
  have e2 : wrap64 (Int.tdiv x 2) = x / 2 := by
    rw [e]
    exact w64 (by omega) (by omega)
  refine ⟨rdOf false ns (wrap64 (Int.tdiv x 2)) != (Int.tmod x 2 == 1), ?_⟩
  unfold litO
  rw [if_pos (by rw [e2]; omega), if_pos (by rw [e2]; omega)]
/-- the gates of a right circuit have their values -/
theorem gates_some (a : Int) (gs : List S114) (ha0 : 0 ≤ a) (ha1 : a ≤ 12) (hl : gs.length ≤ 400) : ∀ (d i : Nat) (ns : List Bool), i + d = gs.length → (ns.length : Int) = 1 + a + (i : Int) → good a gs d i = true → ∃ out, gatesO (gs.drop i) ns = some out ∧ (out.length : Int) = 1 + a + (gs.length : Int) ∧ Ev (fun k => spec_l04Values.l0 k ns (i : Int) a gs) out := by
  intro d
  induction d with
  | zero =>
    intro i ns hi hn _
    obtain rfl : i = gs.length := by omega
    refine ⟨ns, by rw [List.drop_length, gatesO], by omega, stp (fun k => spec_l04Values.l0.eq_2 ..) (ifn (by omega) (sm _))⟩
  | succ d ih =>
    intro i ns hi hn hg
    have hil : i < gs.length := by omega
    have hx : gs[i]? = some gs[i] := List.getElem?_eq_getElem hil
    have hrd : rd_T114 gs (i : Int) = gs[i] := getD_some hx
    simp only [good] at hg
    rw [Bool.and_eq_true, Bool.and_eq_true, hrd] at hg
    obtain ⟨hbad, _, hgood⟩ := hg
    unfold bad at hbad
    simp only [Bool.not_eq_true', Bool.or_eq_false_iff, decide_eq_false_iff_not] at hbad
    obtain ⟨q1, q2, q3, _⟩ := hbad
    rw [w64 (x := a + 1) (by omega) (by omega), w64 (x := a + 1 + (i : Int)) (by omega) (by omega), w64 (by omega) (by omega)] at q3
    obtain ⟨b0, hb0⟩ := litO_some ns gs[i].f0 (by omega) (by omega) (by omega)
    obtain ⟨b1, hb1⟩ := litO_some ns gs[i].f1 (by omega) (by omega) (by omega)
    have hih := fun b => ih (i + 1) (ns ++ [b]) (by omega) (by simp; omega) hgood
    rw [List.drop_eq_getElem_cons hil, gatesO, hb0, Option.bind_some]
    cases b0 with
    | true =>
      obtain ⟨out, o1, o2, o3⟩ := hih b1
      rw [show ((i + 1 : Nat) : Int) = (i : Int) + 1 by omega] at o3
      refine ⟨out, ?_, o2, stp (fun k => spec_l04Values.l0.eq_2 ..) (ifp (by omega) (ifp (by omega) ?_))⟩
      · rw [if_pos rfl, hb1, Option.bind_some, if_pos (by omega)]
        exact o1
      · rw [hrd, up (by omega) (by omega : (i : Int) < (gs.length : Int)) (by omega)]
        exact bnd0 (by rw [lit_is]; exact hb0) (ifp rfl (bnd0 (by rw [lit_is]; exact hb1) (ifp (by omega) o3)))
    | false =>
      obtain ⟨out, o1, o2, o3⟩ := hih false
      rw [show ((i + 1 : Nat) : Int) = (i : Int) + 1 by omega] at o3
      refine ⟨out, ?_, o2, stp (fun k => spec_l04Values.l0.eq_2 ..) (ifp (by omega) (ifp (by omega) ?_))⟩
      · rw [if_neg (by simp), Option.bind_some, if_pos (by omega)]
        exact o1
      · rw [hrd, up (by omega) (by omega : (i : Int) < (gs.length : Int)) (by omega)]
        exact bnd0 (by rw [lit_is]; exact hb0) (ifn (by simp) (ifp (by omega) o3))
theorem outs_some (ns : List Bool) (xs : List Int) (hn : ns.length ≤ 100000) (hxl : xs.length ≤ 4096) (hx : ∀ x ∈ xs, 0 ≤ x ∧ x < 2 * (ns.length : Int)) : ∀ (d i : Nat) (out : List Bool), i + d = xs.length → out.length = i → ∃ r, outO ns (xs.drop i) out = some r ∧ r.length = xs.length ∧ Ev (fun k => spec_EvalAig.l0 k xs ns out (i : Int)) (r, 0) := by
  intro d
  induction d with
  | zero =>
    intro i out hi ho
    obtain rfl : i = xs.length := by omega
    exact ⟨out, by rw [List.drop_length, outO], ho, stp (fun k => spec_EvalAig.l0.eq_2 ..) (ifn (by omega) (sm _))⟩
  | succ d ih =>
    intro i out hi ho
    have hil : i < xs.length := by omega
    have hxi : xs[i]? = some xs[i] := List.getElem?_eq_getElem hil
    obtain ⟨q0, q1⟩ := hx xs[i] (List.getElem_mem hil)
    obtain ⟨b, hb⟩ := litO_some ns xs[i] q0 q1 hn
    obtain ⟨r, r1, r2, r3⟩ := ih (i + 1) (out ++ [b]) (by omega) (by simp; omega)
    rw [show ((i + 1 : Nat) : Int) = (i : Int) + 1 by omega] at r3
    refine ⟨r, ?_, r2, stp (fun k => spec_EvalAig.l0.eq_2 ..) (ifp (by omega) (ifp (by omega) ?_))⟩
    · rw [List.drop_eq_getElem_cons hil, outO, hb, Option.bind_some, if_pos (by omega)]
      exact r1
    · rw [show rd xs (i : Int) = xs[i] from getD_some hxi, up (by omega) (by omega : (i : Int) < (xs.length : Int)) (by omega)]
      exact bnd0 (by rw [lit_is]; exact hb) (ifp (by omega) r3)
theorem l04In_is (a : Int) (gs : List S114) (xs : List Int) (ha0 : 0 ≤ a) (ha1 : a ≤ 12) (hl : gs.length ≤ 400) (hxl : xs.length ≤ 4096) : Ev (fun k => spec_l04In.f k a gs xs) (!(badLits a gs xs)) := by
  unfold badLits
  rw [not_any_not xs (fun x => aigLitB a gs x)]
  refine evc (fun k => spec_l04In.f.eq_1 ..) ?_
  refine allL xs (fun x => aigLitB a gs x) (fun i k => spec_l04In.l0 k xs i a gs) ?_ ?_
  · exact stp (fun k => spec_l04In.l0.eq_2 ..) (ifn (by omega) (sm _))
  · intro i x r hx hk
    have hi : i < xs.length := (List.getElem?_eq_some_iff.1 hx).1
    refine stp (fun k => spec_l04In.l0.eq_2 ..) (ifp (by omega) (ifp (by omega) ?_))
    rw [show rd xs (i : Int) = x from getD_some hx, up (by omega) (by omega : (i : Int) < (xs.length : Int)) (by omega)]
    refine bnd0 (in_is _ _ _) ?_
    have e : (decide (0 ≤ x) && decide (x ≤ wrap64 (wrap64 (2 * wrap64 (a + (gs.length : Int))) + 1))) = aigLitB a gs x := by
      unfold aigLitB
      rw [w64 (x := a + (gs.length : Int)) (by omega) (by omega), w64 (x := 2 * (a + (gs.length : Int))) (by omega) (by omega), w64 (x := 2 * (a + (gs.length : Int)) + 1) (by omega) (by omega)]
      rw [w64 (x := 1 + a) (by omega) (by omega), w64 (x := 1 + a + (gs.length : Int)) (by omega) (by omega), w64 (x := 2 * (1 + a + (gs.length : Int))) (by omega) (by omega), w64 (x := 2 * (1 + a + (gs.length : Int)) - 1) (by omega) (by omega)]
      congr 2
      rw [show 2 * (a + (gs.length : Int)) + 1 = 2 * (1 + a + (gs.length : Int)) - 1 by omega]
    rw [e]
    cases aigLitB a gs x with
    | true => exact ifp rfl (by simpa using hk)
    | false => exact ifn (by simp) (sm _)
theorem evalAig_same (a : Int) (gs : List S114) (xs : List Int) (vals : List Bool) : ∃ p : List Bool × Int, p.1.length ≤ 4096 ∧ Ev (fun k => spec_EvalAig.f k a gs xs vals) p ∧ Ev (fun k => impl_EvalAig.f k a gs xs vals) p := by
  by_cases t1 : (xs.length : Int) > 4096
  · exact ⟨([], 2), by simp, ifp t1 (stp (fun k => spec_EvalAig.j0.eq_2 ..) (ifp rfl (sm _))), ifp t1 (sm _)⟩
  · by_cases t2 : (vals.length : Int) > 4096
    · refine ⟨([], 2), by simp, ifn t1 ?_, ifn t1 (ifp t2 (sm _))⟩
      rw [decide_eq_true t2]
      exact stp (fun k => spec_EvalAig.j0.eq_2 ..) (ifp rfl (sm _))
    · have hs : ∀ p, Ev (fun k => spec_EvalAig.j0 k xs vals false a gs) p → Ev (fun k => spec_EvalAig.f k a gs xs vals) p := by
        intro p hp
        refine evc (fun k => spec_EvalAig.f.eq_1 ..) (ifn t1 ?_)
        rw [decide_eq_false t2]
        exact hp
      have hspec := spec_is a gs
      have himpl := isAig_is a gs
      cases hA : ans a gs with
      | false =>
        rw [hA] at hspec himpl
        exact ⟨([], 1), by simp, hs _ (stp (fun k => spec_EvalAig.j0.eq_2 ..) (ifn (by simp) (bnd hspec (ifn (by simp) (sm _))))), ifn t1 (ifn t2 (bnd himpl (ifn (by simp) (sm _))))⟩
      | true =>
        rw [hA] at hspec himpl
        unfold ans at hA
        rw [Bool.and_eq_true, Bool.and_eq_true, Bool.and_eq_true] at hA
        have ha0 := of_decide_eq_true hA.1
        have ha1 := of_decide_eq_true hA.2.1
        have hl := of_decide_eq_true hA.2.2.1
        have hgood := hA.2.2.2
        by_cases t3 : (vals.length : Int) = a
        · have hin := l04In_is a gs xs ha0 ha1 hl (by omega)
          cases hbl : badLits a gs xs with
          | true =>
            rw [hbl] at hin
            refine ⟨([], 5), by simp, hs _ (stp (fun k => spec_EvalAig.j0.eq_2 ..) (ifn (by simp) (bnd hspec (ifp rfl (ifp t3 (bnd hin (stp (fun k => spec_EvalAig.j1.eq_2 ..) (ifp rfl (sm _)))))))) ), ifn t1 (ifn t2 (bnd himpl (ifp rfl (ifp t3 (ifp hbl (sm _))))))⟩
          | false =>
            rw [hbl] at hin
            obtain ⟨ns, n1, n2, n3⟩ := gates_some a gs ha0 ha1 hl gs.length 0 (false :: vals) (by omega) (by simp; omega) hgood
            rw [List.drop_zero] at n1
            have hx : ∀ x ∈ xs, 0 ≤ x ∧ x < 2 * (ns.length : Int) := by
              intro x hxm
              unfold badLits at hbl
              have := List.any_eq_false.1 hbl x hxm
              have hb : aigLitB a gs x = true := by simpa using this
              unfold aigLitB at hb
              rw [w64 (x := 1 + a) (by omega) (by omega), w64 (x := 1 + a + (gs.length : Int)) (by omega) (by omega), w64 (x := 2 * (1 + a + (gs.length : Int))) (by omega) (by omega), w64 (x := 2 * (1 + a + (gs.length : Int)) - 1) (by omega) (by omega)] at hb
              rw [Bool.and_eq_true] at hb
              have q0 := of_decide_eq_true hb.1
              have q1 := of_decide_eq_true hb.2
              exact ⟨q0, by omega⟩
            obtain ⟨r, r1, r2, r3⟩ := outs_some ns xs (by omega) (by omega) hx xs.length 0 [] (by omega) rfl
            rw [List.drop_zero] at r1
            have hev : impl_evalAig.f a gs xs vals = some r := by
              unfold impl_evalAig.f
              rw [if_pos (by omega), n1, Option.bind_some]
              exact r1
            have hvals : Ev (fun k => spec_l04Values.f k a gs vals) ns := by
              refine evc (fun k => spec_l04Values.f.eq_1 ..) (bnd0 rfl (ifp (by simp; omega) ?_))
              exact n3
            refine ⟨(r, 0), by show r.length ≤ 4096; omega, hs _ (stp (fun k => spec_EvalAig.j0.eq_2 ..) (ifn (by simp) (bnd hspec (ifp rfl (ifp t3 (bnd hin (stp (fun k => spec_EvalAig.j1.eq_2 ..) (ifn (by simp) (bnd hvals r3))))))))), ifn t1 (ifn t2 (bnd himpl (ifp rfl (ifp t3 (ifn (by rw [hbl]; simp) (bnd0 hev (sm _)))))))⟩
        · refine ⟨([], 5), by simp, hs _ (stp (fun k => spec_EvalAig.j0.eq_2 ..) (ifn (by simp) (bnd hspec (ifp rfl (ifn t3 (stp (fun k => spec_EvalAig.j1.eq_2 ..) (ifp rfl (sm _)))))))), ifn t1 (ifn t2 (bnd himpl (ifp rfl (ifn t3 (sm _)))))⟩
theorem markG_is (l : List S114) (hl : l.length ≤ 17592186044416) : ∃ m : List S114, Ev (fun k => laws_markGateS.f k l 1) (1 + 2 * (l.length : Int), m) := by
  have key : ∀ (d i : Nat) (x : List S114), i + d = l.length → x.length = l.length → ∃ m : List S114, Ev (fun k => laws_markGateS.l0 k x (1 + 2 * (i : Int)) (i : Int)) (1 + 2 * (l.length : Int), m) := by
    intro d
    induction d with
    | zero =>
      intro i x hi hx
      obtain rfl : i = l.length := by omega
      exact ⟨x, stp (fun k => laws_markGateS.l0.eq_2 ..) (ifn (by omega) (sm _))⟩
    | succ d ih =>
      intro i x hi hx
      obtain ⟨m, m3⟩ := ih (i + 1) ((x.set i ⟨1 + 2 * (i : Int), (rd_T114 x (i : Int)).f1⟩).set i ⟨(rd_T114 (x.set i ⟨1 + 2 * (i : Int), (rd_T114 x (i : Int)).f1⟩) (i : Int)).f0, 1 + 2 * (i : Int) + 1⟩) (by omega) (by simpa using hx)
      refine ⟨m, stp (fun k => laws_markGateS.l0.eq_2 ..) (ifp (by omega) (ifp (by omega) (bnd0 rfl ?_)))⟩
      rw [up (by omega) (by omega : (i : Int) < (l.length : Int)) (by omega), w64 (x := 1 + 2 * (i : Int) + 1) (by omega) (by omega), w64 (x := 1 + 2 * (i : Int) + 1 + 1) (by omega) (by omega), Int.toNat_natCast]
      rw [show ((i + 1 : Nat) : Int) = (i : Int) + 1 by omega, show 1 + 2 * ((i : Int) + 1) = 1 + 2 * (i : Int) + 1 + 1 by omega] at m3
      exact m3
  obtain ⟨m, m3⟩ := key l.length 0 l (by omega) rfl
  refine ⟨m, evc (fun k => laws_markGateS.f.eq_1 ..) ?_⟩
  simpa using m3

theorem FnExactEvalAig : laws_FnExactEvalAig.Pure := by
  intro a l xs vals ha hl hxs hvals
  refine Ev.rounds ?_
  have h0 := hl.1
  have hx0 := hxs.1
  have hv0 := hvals.1
  by_cases t1 : (xs.length : Int) > 1048576
  · exact ifp t1 (sm _)
  · refine ifn t1 ?_
    by_cases t2 : (vals.length : Int) > 1048576
    · exact ifp t2 (sm _)
    · refine ifn t2 ?_
      have hsz : laws_szAig.f a l 1048576 = some (if 1048576 - (l.length : Int) < 0 then -1 else 1048576 - (l.length : Int)) := by
        unfold laws_szAig.f laws_szGateS.f
        rw [w64 (by omega) (by omega)]
        by_cases h : 1048576 - (l.length : Int) < 0
        · simp [h]
        · simp only [if_neg h, Option.bind_some]
      refine bnd0 hsz ?_
      by_cases h : 1048576 - (l.length : Int) < 0
      · rw [if_pos h]; exact ifp (by decide) (sm _)
      · rw [if_neg h]
        have hto := to_is a l (by omega)
        have hti := toI_is xs (by omega)
        have htb := toB_is vals (by omega)
        have hl2 : (l.map conv).length = l.length := by simp
        obtain ⟨p, hp0, hp1, hp2⟩ := evalAig_same a (l.map conv) xs vals
        obtain ⟨p1, p2⟩ := p
        have hp0' : p1.length ≤ 4096 := hp0
        refine ifn h (bnd hto (bnd hti (bnd htb (bnd hp1 (bnd hto (bnd hti (bnd htb (bnd hp2 (bnd (eqB_self p1 (by omega)) (ifp rfl ?_))))))))))
        obtain ⟨mg, hmg⟩ := markG_is (l.map conv) (by omega)
        obtain ⟨mi, hmi⟩ := markI_is xs (1 + 2 * ((l.map conv).length : Int)) (by omega) (by omega)
        obtain ⟨mb, _, _, hmb⟩ := markB_is vals (1 + 2 * ((l.map conv).length : Int) + (xs.length : Int)) (by omega) (by omega)
        obtain ⟨m, m1, m2, m3⟩ := markB_is p1 1 (by omega) (by omega)
        have hheld := heldB_is m 1 (by omega) (by omega) m2
        refine stp (fun k => laws_FnExactEvalAig.j0.eq_2 ..) (ifn (by simp) ?_)
        refine bnd hto (bnd (eq_self a (l.map conv) (by omega)) (ifp rfl (bnd hti (bnd (eqI_self xs (by omega)) (ifp rfl (bnd htb (bnd (eqB_self vals (by omega)) (ifp rfl ?_))))))))
        refine bnd (a := (1 + 2 * ((l.map conv).length : Int), mg)) (bnd hmg (sm _)) (bnd hmi (bnd hmb (ifn (by show ¬ (1 + 2 * ((l.map conv).length : Int) + (xs.length : Int) + (vals.length : Int) < 0); omega) (bnd (eqB_self p1 (by omega)) (ifp rfl ?_)))))
        refine stp (fun k => laws_FnExactEvalAig.j1.eq_2 ..) (ifn (by simp) ?_)
        refine bnd m3 (bnd hheld (ifn (by omega) (ifp (by rw [m1]) ?_)))
        refine bnd hto (bnd hti (bnd htb (bnd hp2 (bnd (eqB_self p1 (by omega)) (ifp rfl ?_)))))
        refine stp (fun k => laws_FnExactEvalAig.j2.eq_2 ..) (ifn (by simp) ?_)
        exact bnd hheld (ifn (by omega) (ifp (by rw [m1]) (sm _)))

end Go.Proofs.Ytcmkkoggdcjceaa.Pure
