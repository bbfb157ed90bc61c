/- FnExactAigOK: the pure statement behind the law: the program tells of the same circuits as the reference that they are right. No conditions. -/
import Derived.Test.YtdmeonkkbihbhaaDefFnExactAigOK
import Derived.Test.YtdmeonkkbihbhaaPlain
set_option linter.unusedVariables false
set_option linter.unusedSimpArgs false
namespace Go.Proofs.Ytdmeonkkbihbhaa.Pure
open Go.RowKit Go.Proofs.Ytdmeonkkbihbhaa Go.Proofs.Ytdmeonkkbihbhaa.PFnExactAigOK Go.Proofs.YtdmeonkkbihbhaaW.PrintWords Go.Proofs.YtdmeonkkbihbhaaW.PrintLast Go.Proofs.Ytdmeonkkbihbhaa.Plain

def eqg (a b : S100) : Bool := a.f0 == b.f0 && (a.f1 == b.f1)
theorem eqg_comm (a b : S100) : (a.f0 == b.f0 && (a.f1 == b.f1)) = eqg b a := by
  unfold eqg
  rw [Bool.eq_iff_iff]
  simp
  constructor
  · rintro ⟨h1, h2⟩; exact ⟨h1.symm, h2.symm⟩
  · rintro ⟨h1, h2⟩; exact ⟨h1.symm, h2.symm⟩
/-- one of d gates from k on is g -/
def hit (gs : List S100) (g : S100) : Nat → Nat → Bool
  | 0, _ => false
  | d + 1, k => eqg (rd_T100 gs (k : Int)) g || hit gs g d (k + 1)
def bad (a i : Int) (g : S100) : Bool := decide (g.f0 < 2) || (decide (g.f1 ≤ g.f0) || (decide (g.f1 ≥ wrap64 (2 * wrap64 (wrap64 (a + 1) + i))) || (wrap64 (Int.tdiv g.f0 2) == wrap64 (Int.tdiv g.f1 2))))
/-- d gates from i on are right -/
def good (a : Int) (gs : List S100) : Nat → Nat → Bool
  | 0, _ => true
  | d + 1, i => !(bad a i (rd_T100 gs (i : Int))) && (!(hit gs (rd_T100 gs (i : Int)) i 0) && good a gs d (i + 1))

theorem spec_in (a : Int) (gs : List S100) (hl : gs.length ≤ 400) (g : S100) (i : Nat) (hi : i < gs.length) (r : Bool) (hr : Ev (fun k => spec_AigOK.l0 k ((i : Int) + 1) a gs) r) (d : Nat) : ∀ k0 : Nat, k0 + d = i →
    Ev (fun k => spec_AigOK.l1 k (i : Int) (k0 : Int) a gs g.f0 g.f1) (!(hit gs g d k0) && r) := by
  induction d with
  | zero =>
    intro k0 hk
    refine stp (fun _ => spec_AigOK.l1.eq_2 ..) (ifn (by omega) ?_)
    rw [up (by omega) (by omega : (i : Int) < (gs.length : Int)) (by omega)]
    simpa [hit] using hr
  | succ d ih =>
    intro k0 hk
    refine stp (fun _ => spec_AigOK.l1.eq_2 ..) (ifp (by omega) (ifp (by omega) (ifp (by omega) ?_)))
    rw [up (by omega) (by omega : (k0 : Int) < (gs.length : Int)) (by omega)]
    have hih := ih (k0 + 1) (by omega)
    rw [show ((k0 + 1 : Nat) : Int) = (k0 : Int) + 1 by omega] at hih
    simp only [hit]
    cases he : eqg (rd_T100 gs (k0 : Int)) g with
    | true => exact ifp he (sm _)
    | false =>
      refine ifn (by show ¬ (eqg _ _ = true); rw [he]; simp) ?_
      simpa using hih

theorem spec_loop (a : Int) (gs : List S100) (hl : gs.length ≤ 400) (d : Nat) : ∀ i : Nat, i + d = gs.length → Ev (fun k => spec_AigOK.l0 k (i : Int) a gs) (good a gs d i) := by
  induction d with
  | zero =>
    intro i hi
    exact stp (fun _ => spec_AigOK.l0.eq_2 ..) (ifn (by omega) (sm _))
  | succ d ih =>
    intro i hi
    have hih := ih (i + 1) (by omega)
    rw [show ((i + 1 : Nat) : Int) = (i : Int) + 1 by omega] at hih
    have hin := spec_in a gs hl (rd_T100 gs (i : Int)) i (by omega) _ hih i 0 (by omega)
    refine stp (fun _ => spec_AigOK.l0.eq_2 ..) (ifp (by omega) (ifp (by omega) ?_))
    simp only [good]
    generalize rd_T100 gs (i : Int) = g at *
    have hbad : ∀ b : Bool, b = bad a i g → Ev (fun k => spec_AigOK.j2 k (i : Int) b a gs g.f0 g.f1) (!(bad a i g) && (!(hit gs g i 0) && good a gs d (i + 1))) := by
      intro b hb
      subst hb
      refine stp (fun _ => spec_AigOK.j2.eq_2 ..) ?_
      cases hb : bad a i g with
      | true => exact ifp rfl (sm _)
      | false => exact ifn (by simp) (by simpa using hin)
    by_cases h1 : g.f0 < 2
    · exact ifp h1 (hbad true (by simp [bad, h1]))
    · refine ifn h1 ?_
      by_cases h2 : g.f1 ≤ g.f0
      · exact ifp h2 (hbad true (by simp [bad, h2]))
      · refine ifn h2 ?_
        by_cases h3 : g.f1 ≥ wrap64 (2 * wrap64 (wrap64 (a + 1) + (i : Int)))
        · exact ifp h3 (hbad true (by simp only [bad, decide_eq_true h3]; simp))
        · exact ifn h3 (hbad _ (by simp only [bad, decide_eq_false h1, decide_eq_false h2, decide_eq_false h3]; simp))

theorem index_loop (gs : List S100) (g : S100) (n : Nat) (hn : n ≤ gs.length) (hl : gs.length ≤ 400) (d : Nat) : ∀ k0 : Nat, k0 + d = n →
    ∃ r : Int, decide (r ≥ 0) = hit gs g d k0 ∧ Ev (fun k => impl_Gate_114.l0 k (gs.take n) ((gs.take n).length : Int) (k0 : Int) g.f0 g.f1) r := by
  have hlen : ((gs.take n).length : Int) = (n : Int) := by simp; omega
  induction d with
  | zero =>
    intro k0 hk
    exact ⟨-1, by simp [hit], stp (fun _ => impl_Gate_114.l0.eq_2 ..) (ifn (by omega) (sm _))⟩
  | succ d ih =>
    intro k0 hk
    obtain ⟨r, hr, hev⟩ := ih (k0 + 1) (by omega)
    rw [show ((k0 + 1 : Nat) : Int) = (k0 : Int) + 1 by omega] at hev
    have hrd : rd_T100 (gs.take n) (k0 : Int) = rd_T100 gs (k0 : Int) := by
      unfold rd_T100
      simp [List.getD, List.getElem?_take, show k0 < n by omega]
    simp only [hit]
    cases he : eqg (rd_T100 gs (k0 : Int)) g with
    | true =>
      refine ⟨k0, by simp, stp (fun _ => impl_Gate_114.l0.eq_2 ..) (ifp (by omega) (ifp (by omega) (ifp (by omega) (ifp ?_ (sm _)))))⟩
      rw [hrd, eqg_comm, he]
    | false =>
      refine ⟨r, by simpa using hr, stp (fun _ => impl_Gate_114.l0.eq_2 ..) (ifp (by omega) (ifp (by omega) (ifp (by omega) (ifn ?_ ?_))))⟩
      · rw [hrd, eqg_comm, he]; simp
      · rw [up (by omega) (by omega : (k0 : Int) < (gs.length : Int)) (by omega)]
        exact hev

theorem contains_is (gs : List S100) (g : S100) (n : Nat) (hn : n ≤ gs.length) (hl : gs.length ≤ 400) : Ev (fun k => impl_Gate_97.f k (gs.take n) g.f0 g.f1) (hit gs g n 0) := by
  obtain ⟨r, hr, hev⟩ := index_loop gs g n hn hl n 0 (by omega)
  rw [← hr]
  exact bnd hev (sm _)

theorem impl_loop (a : Int) (gs : List S100) (hl : gs.length ≤ 400) (d : Nat) : ∀ i : Nat, i + d = gs.length → Ev (fun k => impl_isAig.l0 k gs (gs.length : Int) (i : Int) a gs) (good a gs d i) := by
  induction d with
  | zero =>
    intro i hi
    exact stp (fun _ => impl_isAig.l0.eq_2 ..) (ifn (by omega) (sm _))
  | succ d ih =>
    intro i hi
    have hih := ih (i + 1) (by omega)
    rw [show ((i + 1 : Nat) : Int) = (i : Int) + 1 by omega] at hih
    have hc := contains_is gs (rd_T100 gs (i : Int)) i (by omega) hl
    refine stp (fun _ => impl_isAig.l0.eq_2 ..) (ifp (by omega) (ifp (by omega) (ifp (by omega) ?_)))
    simp only [good]
    generalize rd_T100 gs (i : Int) = g at *
    by_cases h1 : g.f0 < 2
    · refine ifp h1 ?_
      rw [show bad a i g = true by simp [bad, h1]]
      exact sm _
    · refine ifn h1 ?_
      by_cases h2 : g.f0 ≥ g.f1
      · refine ifp h2 ?_
        rw [show bad a i g = true by simp [bad, show g.f1 ≤ g.f0 from h2]]
        exact sm _
      · refine ifn h2 ?_
        have h2' : ¬ g.f1 ≤ g.f0 := h2
        by_cases h3 : g.f1 ≥ wrap64 (2 * wrap64 (wrap64 (a + 1) + (i : Int)))
        · refine ifp (by rw [Int.add_comm 1 a]; exact h3) ?_
          rw [show bad a i g = true by simp only [bad, decide_eq_true h3]; simp]
          exact sm _
        · refine ifn (by rw [Int.add_comm 1 a]; exact h3) ?_
          by_cases h4 : wrap64 (Int.tdiv g.f0 2) = wrap64 (Int.tdiv g.f1 2)
          · refine ifp h4 ?_
            rw [show bad a i g = true by simp only [bad, h4]; simp]
            exact sm _
          · refine ifn h4 (ifp (by omega) ?_)
            rw [show bad a i g = false by simp only [bad, decide_eq_false h1, decide_eq_false h2', decide_eq_false h3]; simpa using h4]
            rw [Int.toNat_natCast]
            refine bnd hc ?_
            rw [up (by omega) (by omega : (i : Int) < (gs.length : Int)) (by omega)]
            cases hh : hit gs g i 0 with
            | true => exact ifp rfl (sm _)
            | false => exact ifn (by simp) (by simpa using hih)

/-- What both answer. -/
def ans (a : Int) (gs : List S100) : Bool := decide (0 ≤ a) && (decide (a ≤ 12) && (decide (gs.length ≤ 400) && good a gs gs.length 0))

theorem spec_is (a : Int) (gs : List S100) : Ev (fun k => spec_AigOK.f k a gs) (ans a gs) := by
  have hin : spec_l01In.f a 0 12 = some (decide (0 ≤ a) && decide (a ≤ 12)) := by
    unfold spec_l01In.f
    by_cases h : a ≥ 0
    · rw [if_pos h, decide_eq_true h, Bool.true_and]
    · rw [if_neg h, decide_eq_false h, Bool.false_and]
  refine bnd0 hin ?_
  unfold ans
  cases h1 : decide (0 ≤ a) && decide (a ≤ 12) with
  | false =>
    refine ifn (by simp) (stp (fun _ => spec_AigOK.j0.eq_2 ..) (ifp rfl ?_))
    rw [← Bool.and_assoc, h1]
    exact sm _
  | true =>
    refine ifp rfl (stp (fun _ => spec_AigOK.j0.eq_2 ..) ?_)
    rw [← Bool.and_assoc, h1]
    by_cases h2 : gs.length ≤ 400
    · refine ifn (by simp; omega) ?_
      rw [decide_eq_true h2]
      exact spec_loop a gs h2 gs.length 0 (by omega)
    · refine ifp (by simp; omega) ?_
      rw [decide_eq_false h2]
      exact sm _
theorem impl_is (a : Int) (gs : List S100) : Ev (fun k => impl_AigOK.f k a gs) (ans a gs) := by
  have hin : impl_within.f a 0 12 = some (decide (0 ≤ a) && decide (a ≤ 12)) := by
    unfold impl_within.f
    by_cases h : a ≥ 0
    · rw [if_pos h, decide_eq_true h, Bool.true_and]
    · rw [if_neg h, decide_eq_false h, Bool.false_and]
  refine bnd (a := ans a gs) ?_ (sm _)
  refine bnd0 hin ?_
  unfold ans
  cases h1 : decide (0 ≤ a) && decide (a ≤ 12) with
  | false =>
    refine ifn (by simp) (stp (fun _ => impl_isAig.j0.eq_2 ..) (ifp rfl ?_))
    rw [← Bool.and_assoc, h1]
    exact sm _
  | true =>
    refine ifp rfl (stp (fun _ => impl_isAig.j0.eq_2 ..) ?_)
    rw [← Bool.and_assoc, h1]
    by_cases h2 : gs.length ≤ 400
    · refine ifn (by simp; omega) ?_
      rw [decide_eq_true h2]
      exact impl_loop a gs h2 gs.length 0 (by omega)
    · refine ifp (by simp; omega) ?_
      rw [decide_eq_false h2]
      exact sm _

def conv (x : S132) : S100 := ⟨x.f0, x.f1⟩
theorem toS_is (l : List S132) (hl : l.length ≤ 17592186044416) : Ev (fun k => laws_toGateS.f k l) (l.map conv) := by
  refine evc (fun k => laws_toGateS.f.eq_1 ..) (ifp (by omega) (ifp (by omega) ?_))
  refine copy conv l (fun i out k => laws_toGateS.l0 k l out i) ?_ ?_ _ (by simp)
  · intro out
    refine stp (fun k => laws_toGateS.l0.eq_2 ..) (ifn (by omega) (sm _))
  · intro i out r x hx hlen hk
    have hi : i < l.length := (List.getElem?_eq_some_iff.1 hx).1
    refine stp (fun k => laws_toGateS.l0.eq_2 ..) (ifp (by omega) (ifp (by omega) ?_))
    rw [show rd_T132 l (i : Int) = x from getD_some hx, up (by omega) (by omega : (i : Int) < (l.length : Int)) (by omega)]
    refine bnd0 rfl (ifp (by omega) ?_)
    rw [Int.toNat_natCast]
    exact hk
theorem to_is (a : Int) (l : List S132) (hl : l.length ≤ 17592186044416) : Ev (fun k => laws_toAig.f k a l) (a, l.map conv) := bnd (toS_is l hl) (sm _)

theorem eqg_self (x : S100) : laws_eqGate.f x.f0 x.f1 x.f0 x.f1 = some true := by
  unfold laws_eqGate.f
  simp
theorem eqS_self (l : List S100) (hl : l.length ≤ 140737488351232) : Ev (fun k => laws_eqGateS.f k l l) true := by
  refine evc (fun k => laws_eqGateS.f.eq_1 ..) (ifp rfl ?_)
  refine same l (fun i k => laws_eqGateS.l0 k l l i) ?_ ?_
  · exact stp (fun k => laws_eqGateS.l0.eq_2 ..) (ifn (by omega) (sm _))
  · intro i x hx hk
    have hi : i < l.length := (List.getElem?_eq_some_iff.1 hx).1
    refine stp (fun k => laws_eqGateS.l0.eq_2 ..) (ifp (by omega) (ifp (by omega) (ifp (by omega) ?_)))
    rw [up (by omega) (by omega : (i : Int) < (l.length : Int)) (by omega)]
    exact bnd0 (eqg_self _) (ifp rfl hk)
theorem eq_self (a : Int) (l : List S100) (hl : l.length ≤ 140737488351232) : Ev (fun k => laws_eqAig.f k a l a l) true :=
  evc (fun k => laws_eqAig.f.eq_1 ..) (ifp rfl (bnd (eqS_self l hl) (ifp rfl (sm _))))

theorem FnExactAigOK : laws_FnExactAigOK.Pure := by
  intro a l ha hl
  refine Ev.rounds ?_
  refine evc (fun k => laws_FnExactAigOK.f.eq_1 ..) ?_
  have h0 := hl.1
  have hsz : laws_szAig.f a l 1048576 = some (if 1048576 - (l.length : Int) < 0 then -1 else 1048576 - (l.length : Int)) := by
    unfold laws_szAig.f laws_szGateS.f
    rw [w64 (by omega) (by omega)]
    by_cases h : 1048576 - (l.length : Int) < 0
    · simp [h]
    · simp only [if_neg h, Option.bind_some]
  refine bnd0 hsz ?_
  by_cases h : 1048576 - (l.length : Int) < 0
  · rw [if_pos h]; exact ifp (by decide) (sm _)
  · rw [if_neg h]
    have hto := to_is a l (by omega)
    have hl2 : (l.map conv).length ≤ 140737488351232 := by simp; omega
    refine ifn h (bnd hto (bnd (spec_is _ _) (bnd hto (bnd (impl_is _ _) (ifn (by simp) (bnd hto (bnd (eq_self _ _ hl2) (ifp rfl (sm _)))))))))

end Go.Proofs.Ytdmeonkkbihbhaa.Pure
