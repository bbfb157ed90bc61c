/- FnExactDimacsText: the pure statement behind the law: the program writes of the same formulas the same text as the reference. No conditions. -/
import Derived.Test.YtelfahcjeldliaaDoorDefFnExactDimacsText
import Derived.Test.YtelfahcjeldliaaDoorPlain
set_option linter.unusedVariables false
set_option linter.unusedSimpArgs false
namespace Go.Proofs.YtelfahcjeldliaaDoor.Pure
open Go.RowKit Go.Proofs.YtelfahcjeldliaaDoor Go.Proofs.YtelfahcjeldliaaDoor.PFnExactDimacsText Go.Proofs.YtelfahcjeldliaaDoorW.PrintWords Go.Proofs.YtelfahcjeldliaaDoorW.PrintLast Go.Proofs.YtelfahcjeldliaaDoor.Plain

theorem in_is (x lo hi : Int) : spec_l01In.f x lo hi = some (decide (lo ≤ x) && decide (x ≤ hi)) := by
  unfold spec_l01In.f
  by_cases h : x ≥ lo
  · rw [if_pos h, decide_eq_true h, Bool.true_and]
  · rw [if_neg h, decide_eq_false h, Bool.false_and]
/-- what is left when a list is counted -/
def szI (left : Int) (c : List Int) : Int := if left - (c.length : Int) < 0 then -1 else left - (c.length : Int)
theorem szI_le (left : Int) (c : List Int) (h : 0 ≤ left) : szI left c ≤ left := by unfold szI; split <;> omega
theorem szI_neg (left : Int) (c : List Int) (h : szI left c < 0) : szI left c = -1 := by unfold szI at *; split at h <;> simp_all <;> omega
theorem szI_is (c : List Int) (left : Int) (h0 : 0 ≤ left) (h1 : left ≤ 1048576) (hc : c.length ≤ 140737488351232) : laws_szIntS.f c left = some (szI left c) := by
  unfold laws_szIntS.f szI
  rw [w64 (by omega) (by omega)]
  by_cases h : left - (c.length : Int) < 0
  · rw [if_pos h, if_pos h]
  · rw [if_neg h, if_neg h]
theorem toI_is (l : List Int) (hl : l.length ≤ 35184372088832) : Ev (fun k => laws_toIntS.f k l) l := by
  refine evc (fun k => laws_toIntS.f.eq_1 ..) (ifp (by omega) (ifp (by omega) ?_))
  have := copy (fun x : Int => x) l (fun i out k => laws_toIntS.l0 k l out i) ?_ ?_ (List.replicate (l.length : Int).toNat 0) (by simp)
  · simpa using this
  · intro out
    exact stp (fun k => laws_toIntS.l0.eq_2 ..) (ifn (by omega) (sm _))
  · intro i out r x hx hlen hk
    have hi : i < l.length := (List.getElem?_eq_some_iff.1 hx).1
    refine stp (fun k => laws_toIntS.l0.eq_2 ..) (ifp (by omega) (ifp (by omega) (ifp (by omega) ?_)))
    rw [show rd l (i : Int) = x from getD_some hx, up (by omega) (by omega : (i : Int) < (l.length : Int)) (by omega), Int.toNat_natCast]
    exact hk
theorem eqI_self (l : List Int) (hl : l.length ≤ 140737488351232) : Ev (fun k => laws_eqIntS.f k l l) true := by
  refine evc (fun k => laws_eqIntS.f.eq_1 ..) (ifp rfl ?_)
  refine same l (fun i k => laws_eqIntS.l0 k l l i) ?_ ?_
  · exact stp (fun k => laws_eqIntS.l0.eq_2 ..) (ifn (by omega) (sm _))
  · intro i x hx hk
    have hi : i < l.length := (List.getElem?_eq_some_iff.1 hx).1
    refine stp (fun k => laws_eqIntS.l0.eq_2 ..) (ifp (by omega) (ifp (by omega) (ifp (by omega) (ifp rfl ?_))))
    rw [up (by omega) (by omega : (i : Int) < (l.length : Int)) (by omega)]
    exact hk
/-- rows of numbers within the reach -/
abbrev RowsOK (l : List (List Int)) : Prop := Reads.WFL 24 (Reads.WFL 8 Reads.WFI) l
theorem rows_len {l : List (List Int)} (h : RowsOK l) : l.length * 24 ≤ 140737488351232 := h.1
theorem row_len {l : List (List Int)} (h : RowsOK l) {i : Nat} {c : List Int} (hc : l[i]? = some c) : c.length * 8 ≤ 140737488351232 := (h.2 c (List.mem_of_getElem? hc)).1
theorem row_num {l : List (List Int)} (h : RowsOK l) {c : List Int} (hc : c ∈ l) {x : Int} (hx : x ∈ c) : -9223372036854775808 ≤ x ∧ x ≤ 9223372036854775807 := (h.2 c hc).2 x hx
theorem szSS_is (l : List (List Int)) (h : RowsOK l) (left : Int) (h0 : 0 ≤ left) (h1 : left ≤ 1048576) : ∃ v : Int, v ≤ 1048576 ∧ Ev (fun k => laws_szIntSS.f k l left) v := by
  have hl := rows_len h
  by_cases hs : left - (l.length : Int) < 0
  · exact ⟨-1, by omega, evc (fun k => laws_szIntSS.f.eq_1 ..) (ifp (by rw [w64 (by omega) (by omega)]; exact hs) (sm _))⟩
  · have key : ∀ (d i : Nat) (lf : Int), i + d = l.length → 0 ≤ lf → lf ≤ 1048576 → ∃ v : Int, v ≤ 1048576 ∧ Ev (fun k => laws_szIntSS.l0 k l lf (i : Int)) v := by
      intro d
      induction d with
      | zero =>
        intro i lf hi hf0 hf1
        exact ⟨lf, hf1, stp (fun k => laws_szIntSS.l0.eq_2 ..) (ifn (by omega) (sm _))⟩
      | succ d ih =>
        intro i lf hi hf0 hf1
        have hil : i < l.length := by omega
        have hx : l[i]? = some l[i] := List.getElem?_eq_getElem hil
        have hlen := row_len h hx
        have hsz := szI_is l[i] lf hf0 hf1 (by omega)
        by_cases hn : szI lf l[i] < 0
        · refine ⟨-1, by omega, stp (fun k => laws_szIntSS.l0.eq_2 ..) (ifp (by omega) (ifp (by omega) ?_))⟩
          rw [show rd_L1 l (i : Int) = l[i] from getD_some hx]
          exact bnd0 hsz (ifp hn (sm _))
        · obtain ⟨v, hv, hev⟩ := ih (i + 1) (szI lf l[i]) (by omega) (by omega) (by have := szI_le lf l[i] hf0; omega)
          rw [show ((i + 1 : Nat) : Int) = (i : Int) + 1 by omega] at hev
          refine ⟨v, hv, stp (fun k => laws_szIntSS.l0.eq_2 ..) (ifp (by omega) (ifp (by omega) ?_))⟩
          rw [show rd_L1 l (i : Int) = l[i] from getD_some hx, up (by omega) (by omega : (i : Int) < (l.length : Int)) (by omega)]
          exact bnd0 hsz (ifn hn hev)
    obtain ⟨v, hv, hev⟩ := key l.length 0 (left - (l.length : Int)) (by omega) (by omega) (by omega)
    refine ⟨v, hv, evc (fun k => laws_szIntSS.f.eq_1 ..) (ifn (by rw [w64 (by omega) (by omega)]; exact hs) ?_)⟩
    rw [w64 (by omega) (by omega)]
    exact hev
theorem szCnf_is (a : Int) (l : List (List Int)) (h : RowsOK l) (left : Int) (h0 : 0 ≤ left) (h1 : left ≤ 1048576) : ∃ v : Int, v ≤ 1048576 ∧ Ev (fun k => laws_szCnf.f k a l left) v := by
  obtain ⟨v, hv, hev⟩ := szSS_is l h left h0 h1
  by_cases hn : v < 0
  · exact ⟨-1, by omega, bnd hev (ifp hn (sm _))⟩
  · exact ⟨v, hv, bnd hev (ifn hn (sm _))⟩
theorem toSS_is (l : List (List Int)) (h : RowsOK l) : Ev (fun k => laws_toIntSS.f k l) l := by
  have hl := rows_len h
  refine evc (fun k => laws_toIntSS.f.eq_1 ..) (ifp (by omega) (ifp (by omega) ?_))
  have := copy (fun x : List Int => x) l (fun i out k => laws_toIntSS.l0 k l out i) ?_ ?_ (List.replicate (l.length : Int).toNat []) (by simp)
  · simpa using this
  · intro out
    exact stp (fun k => laws_toIntSS.l0.eq_2 ..) (ifn (by omega) (sm _))
  · intro i out r x hx hlen hk
    have hi : i < l.length := (List.getElem?_eq_some_iff.1 hx).1
    have hxl := row_len h hx
    refine stp (fun k => laws_toIntSS.l0.eq_2 ..) (ifp (by omega) (ifp (by omega) ?_))
    rw [show rd_L1 l (i : Int) = x from getD_some hx, up (by omega) (by omega : (i : Int) < (l.length : Int)) (by omega), Int.toNat_natCast]
    exact bnd (toI_is x (by omega)) (ifp (by omega) hk)
theorem toCnf_is (a : Int) (l : List (List Int)) (h : RowsOK l) : Ev (fun k => laws_toCnf.f k a l) (a, l) := bnd (toSS_is l h) (sm _)
theorem eqSS_self (l : List (List Int)) (h : RowsOK l) : Ev (fun k => laws_eqIntSS.f k l l) true := by
  have hl := rows_len h
  refine evc (fun k => laws_eqIntSS.f.eq_1 ..) (ifp rfl ?_)
  refine same l (fun i k => laws_eqIntSS.l0 k l l i) ?_ ?_
  · exact stp (fun k => laws_eqIntSS.l0.eq_2 ..) (ifn (by omega) (sm _))
  · intro i x hx hk
    have hi : i < l.length := (List.getElem?_eq_some_iff.1 hx).1
    have hxl := row_len h hx
    refine stp (fun k => laws_eqIntSS.l0.eq_2 ..) (ifp (by omega) (ifp (by omega) (ifp (by omega) ?_)))
    rw [show rd_L1 l (i : Int) = x from getD_some hx, up (by omega) (by omega : (i : Int) < (l.length : Int)) (by omega)]
    exact bnd (eqI_self x (by omega)) (ifp rfl hk)
theorem eqCnf_self (a : Int) (l : List (List Int)) (h : RowsOK l) : Ev (fun k => laws_eqCnf.f k a l a l) true :=
  evc (fun k => laws_eqCnf.f.eq_1 ..) (ifp rfl (bnd (eqSS_self l h) (ifp rfl (sm _))))

theorem specClause_is (c : List Int) (vars : Int) (hc : c.length * 8 ≤ 140737488351232) : Ev (fun k => spec_l01Clause.f k c vars) (clauseB c vars) := by
  unfold clauseB
  rw [not_any_not c (fun x => litB x vars)]
  refine evc (fun k => spec_l01Clause.f.eq_1 ..) ?_
  by_cases h : c.length ≤ 12
  · rw [decide_eq_true h, Bool.true_and]
    refine ifn (by omega) ?_
    refine allL c (fun x => litB x vars) (fun i k => spec_l01Clause.l0 k c vars i) ?_ ?_
    · exact stp (fun k => spec_l01Clause.l0.eq_2 ..) (ifn (by omega) (sm _))
    · intro i x r hx hk
      have hi : i < c.length := (List.getElem?_eq_some_iff.1 hx).1
      refine stp (fun k => spec_l01Clause.l0.eq_2 ..) (ifp (by omega) (ifp (by omega) ?_))
      rw [show rd c (i : Int) = x from getD_some hx, up (by omega) (by omega : (i : Int) < (c.length : Int)) (by omega)]
      unfold litB
      by_cases hz : x = 0
      · refine ifp hz ?_
        rw [decide_eq_false (by simpa using hz)]
        exact sm _
      · refine ifn hz (bnd0 (in_is _ _ _) ?_)
        rw [decide_eq_true hz, Bool.true_and]
        cases hb : decide (wrap64 (-vars) ≤ x) && decide (x ≤ vars) with
        | true => exact ifp rfl (by simpa using hk)
        | false => exact ifn (by simp) (sm _)
  · rw [decide_eq_false h, Bool.false_and]
    exact ifp (by omega) (sm _)
theorem specCnf_is (a : Int) (l : List (List Int)) (h : RowsOK l) : Ev (fun k => spec_CnfOK.f k a l) (cnfB a l) := by
  have hl := rows_len h
  unfold cnfB
  rw [not_any_not l (fun c => clauseB c a), ← Bool.and_assoc]
  refine bnd0 (in_is _ _ _) ?_
  cases h1 : decide (0 ≤ a) && decide (a ≤ 40) with
  | false =>
    rw [Bool.false_and]
    exact ifn (by simp) (stp (fun k => spec_CnfOK.j0.eq_2 ..) (ifp rfl (sm _)))
  | true =>
    rw [Bool.true_and]
    refine ifp rfl (stp (fun k => spec_CnfOK.j0.eq_2 ..) ?_)
    by_cases h2 : l.length ≤ 300
    · rw [decide_eq_true h2, Bool.true_and]
      refine ifn (by simp; omega) ?_
      refine allL l (fun c => clauseB c a) (fun i k => spec_CnfOK.l0 k i a l) ?_ ?_
      · exact stp (fun k => spec_CnfOK.l0.eq_2 ..) (ifn (by omega) (sm _))
      · intro i x r hx hk
        have hi : i < l.length := (List.getElem?_eq_some_iff.1 hx).1
        have hxl := row_len h hx
        refine stp (fun k => spec_CnfOK.l0.eq_2 ..) (ifp (by omega) (ifp (by omega) ?_))
        rw [show rd_L1 l (i : Int) = x from getD_some hx, up (by omega) (by omega : (i : Int) < (l.length : Int)) (by omega)]
        refine bnd (specClause_is x a hxl) ?_
        cases hb : clauseB x a with
        | true => exact ifp rfl (by simpa using hk)
        | false => exact ifn (by simp) (sm _)
    · rw [decide_eq_false h2, Bool.false_and]
      exact ifp (by simp; omega) (sm _)

theorem FnExactDimacsText : laws_FnExactDimacsText.Pure := by
  intro a l ha hl
  refine Ev.rounds ?_
  refine evc (fun k => laws_FnExactDimacsText.f.eq_1 ..) ?_
  obtain ⟨v, hv, hsz⟩ := szCnf_is a l hl 1048576 (by omega) (by omega)
  refine bnd hsz ?_
  by_cases h : v < 0
  · exact ifp h (sm _)
  · have hto := toCnf_is a l hl
    refine ifn h (bnd hto ?_)
    have hsp := specCnf_is a l hl
    have hend : ∀ r : ByteArray × Int, Ev (fun k => laws_FnExactDimacsText.j0 k (r.2 != r.2) a l a l) true := fun r => by
      refine stp (fun k => laws_FnExactDimacsText.j0.eq_2 ..) (ifn (by simp) (bnd hto (bnd (eqCnf_self a l hl) (ifp rfl (sm _)))))
    cases hc : cnfB a l with
    | true =>
      rw [hc] at hsp
      have h1 : Ev (fun k => spec_DimacsText.f k a l) (sB (textT a l), 0) := bnd hsp (ifp rfl (bnd0 (show spec_l01Text.f a l = some (sB (textT a l)) by unfold spec_l01Text.f; rw [if_pos hc]) (sm _)))
      have h2 : impl_DimacsText.f a l = some (sB (textT a l), 0) := by unfold impl_DimacsText.f; rw [if_pos hc]
      exact bnd h1 (bnd hto (bnd0 h2 (ifp rfl (hend (sB (textT a l), 0)))))
    | false =>
      rw [hc] at hsp
      have h1 : Ev (fun k => spec_DimacsText.f k a l) (sB [], 1) := bnd hsp (ifn Bool.false_ne_true (sm _))
      have h2 : impl_DimacsText.f a l = some (sB [], 1) := by unfold impl_DimacsText.f; rw [hc, if_neg Bool.false_ne_true]
      exact bnd h1 (bnd hto (bnd0 h2 (ifp rfl (hend (sB [], 1)))))

end Go.Proofs.YtelfahcjeldliaaDoor.Pure
