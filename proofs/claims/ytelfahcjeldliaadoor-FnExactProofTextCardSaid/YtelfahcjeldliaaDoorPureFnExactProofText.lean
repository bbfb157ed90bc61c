/- FnExactProofText: the pure statement behind the law: the program writes of the same steps the same text as the reference. No conditions. -/
import Derived.Test.YtelfahcjeldliaaDoorDefFnExactProofText
import Derived.Test.YtelfahcjeldliaaDoorPlain
set_option linter.unusedVariables false
set_option linter.unusedSimpArgs false
namespace Go.Proofs.YtelfahcjeldliaaDoor.Pure
open Go.RowKit Go.Proofs.YtelfahcjeldliaaDoor Go.Proofs.YtelfahcjeldliaaDoor.PFnExactProofText Go.Proofs.YtelfahcjeldliaaDoorW.PrintWords Go.Proofs.YtelfahcjeldliaaDoorW.PrintLast Go.Proofs.YtelfahcjeldliaaDoor.Plain

theorem in_is (x lo hi : Int) : spec_l01In.f x lo hi = some (decide (lo ≤ x) && decide (x ≤ hi)) := by
  unfold spec_l01In.f
  by_cases h : x ≥ lo
  · rw [if_pos h, decide_eq_true h, Bool.true_and]
  · rw [if_neg h, decide_eq_false h, Bool.false_and]
/-- what is left when a list is counted -/
def szI (left : Int) (c : List Int) : Int := if left - (c.length : Int) < 0 then -1 else left - (c.length : Int)
theorem szI_le (left : Int) (c : List Int) (h : 0 ≤ left) : szI left c ≤ left := by unfold szI; split <;> omega
theorem szI_neg (left : Int) (c : List Int) (h : szI left c < 0) : szI left c = -1 := by unfold szI at *; split at h <;> simp_all <;> omega
theorem szI_is (c : List Int) (left : Int) (h0 : 0 ≤ left) (h1 : left ≤ 1048576) (hc : c.length ≤ 140737488351232) : laws_szIntS.f c left = some (szI left c) := by
  unfold laws_szIntS.f szI
  rw [w64 (by omega) (by omega)]
  by_cases h : left - (c.length : Int) < 0
  · rw [if_pos h, if_pos h]
  · rw [if_neg h, if_neg h]
theorem toI_is (l : List Int) (hl : l.length ≤ 35184372088832) : Ev (fun k => laws_toIntS.f k l) l := by
  refine evc (fun k => laws_toIntS.f.eq_1 ..) (ifp (by omega) (ifp (by omega) ?_))
  have := copy (fun x : Int => x) l (fun i out k => laws_toIntS.l0 k l out i) ?_ ?_ (List.replicate (l.length : Int).toNat 0) (by simp)
  · simpa using this
  · intro out
    exact stp (fun k => laws_toIntS.l0.eq_2 ..) (ifn (by omega) (sm _))
  · intro i out r x hx hlen hk
    have hi : i < l.length := (List.getElem?_eq_some_iff.1 hx).1
    refine stp (fun k => laws_toIntS.l0.eq_2 ..) (ifp (by omega) (ifp (by omega) (ifp (by omega) ?_)))
    rw [show rd l (i : Int) = x from getD_some hx, up (by omega) (by omega : (i : Int) < (l.length : Int)) (by omega), Int.toNat_natCast]
    exact hk
theorem eqI_self (l : List Int) (hl : l.length ≤ 140737488351232) : Ev (fun k => laws_eqIntS.f k l l) true := by
  refine evc (fun k => laws_eqIntS.f.eq_1 ..) (ifp rfl ?_)
  refine same l (fun i k => laws_eqIntS.l0 k l l i) ?_ ?_
  · exact stp (fun k => laws_eqIntS.l0.eq_2 ..) (ifn (by omega) (sm _))
  · intro i x hx hk
    have hi : i < l.length := (List.getElem?_eq_some_iff.1 hx).1
    refine stp (fun k => laws_eqIntS.l0.eq_2 ..) (ifp (by omega) (ifp (by omega) (ifp (by omega) (ifp rfl ?_))))
    rw [up (by omega) (by omega : (i : Int) < (l.length : Int)) (by omega)]
    exact hk
theorem specClause_is (c : List Int) (vars : Int) (hc : c.length * 8 ≤ 140737488351232) : Ev (fun k => spec_l01Clause.f k c vars) (clauseB c vars) := by
  unfold clauseB
  rw [not_any_not c (fun x => litB x vars)]
  refine evc (fun k => spec_l01Clause.f.eq_1 ..) ?_
  by_cases h : c.length ≤ 12
  · rw [decide_eq_true h, Bool.true_and]
    refine ifn (by omega) ?_
    refine allL c (fun x => litB x vars) (fun i k => spec_l01Clause.l0 k c vars i) ?_ ?_
    · exact stp (fun k => spec_l01Clause.l0.eq_2 ..) (ifn (by omega) (sm _))
    · intro i x r hx hk
      have hi : i < c.length := (List.getElem?_eq_some_iff.1 hx).1
      refine stp (fun k => spec_l01Clause.l0.eq_2 ..) (ifp (by omega) (ifp (by omega) ?_))
      rw [show rd c (i : Int) = x from getD_some hx, up (by omega) (by omega : (i : Int) < (c.length : Int)) (by omega)]
      unfold litB
      by_cases hz : x = 0
      · refine ifp hz ?_
        rw [decide_eq_false (by simpa using hz)]
        exact sm _
      · refine ifn hz (bnd0 (in_is _ _ _) ?_)
        rw [decide_eq_true hz, Bool.true_and]
        cases hb : decide (wrap64 (-vars) ≤ x) && decide (x ≤ vars) with
        | true => exact ifp rfl (by simpa using hk)
        | false => exact ifn (by simp) (sm _)
  · rw [decide_eq_false h, Bool.false_and]
    exact ifp (by omega) (sm _)

/-- rows of steps within the reach -/
abbrev StepsOK (l : List S58) : Prop := Reads.WFL 32 wf58 l
theorem st_len {l : List S58} (h : StepsOK l) : l.length * 32 ≤ 140737488351232 := h.1
theorem st_row {l : List S58} (h : StepsOK l) {i : Nat} {x : S58} (hx : l[i]? = some x) : x.f1.length * 8 ≤ 140737488351232 := (h.2 x (List.mem_of_getElem? hx)).2.1
theorem szSt_is (l : List S58) (h : StepsOK l) (left : Int) (h0 : 0 ≤ left) (h1 : left ≤ 1048576) : ∃ v : Int, Ev (fun k => laws_szStepS.f k l left) v := by
  have hl := st_len h
  by_cases hs : left - (l.length : Int) < 0
  · exact ⟨-1, evc (fun k => laws_szStepS.f.eq_1 ..) (ifp (by rw [w64 (by omega) (by omega)]; exact hs) (sm _))⟩
  · have key : ∀ (d i : Nat) (lf : Int), i + d = l.length → 0 ≤ lf → lf ≤ 1048576 → ∃ v : Int, Ev (fun k => laws_szStepS.l0 k l lf (i : Int)) v := by
      intro d
      induction d with
      | zero =>
        intro i lf hi hf0 hf1
        exact ⟨lf, stp (fun k => laws_szStepS.l0.eq_2 ..) (ifn (by omega) (sm _))⟩
      | succ d ih =>
        intro i lf hi hf0 hf1
        have hil : i < l.length := by omega
        have hx : l[i]? = some l[i] := List.getElem?_eq_getElem hil
        have hlen := st_row h hx
        have hsz := szI_is l[i].f1 lf hf0 hf1 (by omega)
        by_cases hn : szI lf l[i].f1 < 0
        · refine ⟨-1, stp (fun k => laws_szStepS.l0.eq_2 ..) (ifp (by omega) (ifp (by omega) ?_))⟩
          rw [show rd_T58 l (i : Int) = l[i] from getD_some hx]
          have hst : laws_szStep.f l[i].f0 l[i].f1 lf = some (-1) := by unfold laws_szStep.f; rw [hsz]; simp only [Option.bind_some]; rw [if_pos hn]
          exact bnd0 hst (ifp (by decide) (sm _))
        · obtain ⟨v, hev⟩ := ih (i + 1) (szI lf l[i].f1) (by omega) (by omega) (by have := szI_le lf l[i].f1 hf0; omega)
          rw [show ((i + 1 : Nat) : Int) = (i : Int) + 1 by omega] at hev
          refine ⟨v, stp (fun k => laws_szStepS.l0.eq_2 ..) (ifp (by omega) (ifp (by omega) ?_))⟩
          rw [show rd_T58 l (i : Int) = l[i] from getD_some hx, up (by omega) (by omega : (i : Int) < (l.length : Int)) (by omega)]
          have hst : laws_szStep.f l[i].f0 l[i].f1 lf = some (szI lf l[i].f1) := by unfold laws_szStep.f; rw [hsz]; simp only [Option.bind_some]; rw [if_neg hn]
          exact bnd0 hst (ifn hn hev)
    obtain ⟨v, hev⟩ := key l.length 0 (left - (l.length : Int)) (by omega) (by omega) (by omega)
    refine ⟨v, evc (fun k => laws_szStepS.f.eq_1 ..) (ifn (by rw [w64 (by omega) (by omega)]; exact hs) ?_)⟩
    rw [w64 (by omega) (by omega)]
    exact hev
def toSx (x : S58) : S61 := ⟨x.f0, x.f1⟩
theorem toSt_is (l : List S58) (h : StepsOK l) : Ev (fun k => laws_toStepS.f k l) (l.map toSx) := by
  have hl := st_len h
  refine evc (fun k => laws_toStepS.f.eq_1 ..) (ifp (by omega) (ifp (by omega) ?_))
  refine copy toSx l (fun i out k => laws_toStepS.l0 k l out i) ?_ ?_ (List.replicate (l.length : Int).toNat z61) (by simp)
  · intro out
    exact stp (fun k => laws_toStepS.l0.eq_2 ..) (ifn (by omega) (sm _))
  · intro i out r x hx hlen hk
    have hi : i < l.length := (List.getElem?_eq_some_iff.1 hx).1
    have hxl := st_row h hx
    refine stp (fun k => laws_toStepS.l0.eq_2 ..) (ifp (by omega) (ifp (by omega) ?_))
    rw [show rd_T58 l (i : Int) = x from getD_some hx, up (by omega) (by omega : (i : Int) < (l.length : Int)) (by omega), Int.toNat_natCast]
    exact bnd (bnd (toI_is x.f1 (by omega)) (sm _)) (ifp (by omega) hk)
theorem eqSt_self (m : List S61) (hl : m.length ≤ 140737488351232) (h : ∀ x ∈ m, x.f1.length ≤ 140737488351232) : Ev (fun k => laws_eqStepS.f k m m) true := by
  refine evc (fun k => laws_eqStepS.f.eq_1 ..) (ifp rfl ?_)
  refine same m (fun i k => laws_eqStepS.l0 k m m i) ?_ ?_
  · exact stp (fun k => laws_eqStepS.l0.eq_2 ..) (ifn (by omega) (sm _))
  · intro i x hx hk
    have hi : i < m.length := (List.getElem?_eq_some_iff.1 hx).1
    have hxl := h x (List.mem_of_getElem? hx)
    refine stp (fun k => laws_eqStepS.l0.eq_2 ..) (ifp (by omega) (ifp (by omega) (ifp (by omega) ?_)))
    rw [show rd_T61 m (i : Int) = x from getD_some hx, up (by omega) (by omega : (i : Int) < (m.length : Int)) (by omega)]
    exact bnd (ifn (by simp) (bnd (eqI_self x.f1 (by omega)) (ifp rfl (sm _)))) (ifp rfl hk)
theorem specSteps_is (m : List S61) (hl : m.length ≤ 140737488351232) (h : ∀ x ∈ m, x.f1.length * 8 ≤ 140737488351232) (v : Int) : Ev (fun k => spec_l03Steps.f k m v) (stepsB m v) := by
  unfold stepsB
  refine evc (fun k => spec_l03Steps.f.eq_1 ..) ?_
  by_cases hc : m.length ≤ 200
  · rw [decide_eq_true hc, Bool.true_and]
    refine ifn (by omega) ?_
    refine allL m (fun x => stepB x v) (fun i k => spec_l03Steps.l0 k m v i) ?_ ?_
    · exact stp (fun k => spec_l03Steps.l0.eq_2 ..) (ifn (by omega) (sm _))
    · intro i x r hx hk
      have hi : i < m.length := (List.getElem?_eq_some_iff.1 hx).1
      have hxl := h x (List.mem_of_getElem? hx)
      refine stp (fun k => spec_l03Steps.l0.eq_2 ..) (ifp (by omega) (ifp (by omega) ?_))
      rw [show rd_T61 m (i : Int) = x from getD_some hx, up (by omega) (by omega : (i : Int) < (m.length : Int)) (by omega)]
      refine bnd (specClause_is x.f1 v hxl) ?_
      unfold stepB
      cases hb : clauseB x.f1 v with
      | true => exact ifp rfl (by simpa using hk)
      | false => exact ifn (by simp) (sm _)
  · rw [decide_eq_false hc, Bool.false_and]
    exact ifp (by omega) (sm _)

theorem FnExactProofText : laws_FnExactProofText.Pure := by
  intro l hl
  refine Ev.rounds ?_
  refine evc (fun k => laws_FnExactProofText.f.eq_1 ..) ?_
  obtain ⟨v, hsz⟩ := szSt_is l hl 1048576 (by omega) (by omega)
  refine bnd hsz ?_
  by_cases h : v < 0
  · exact ifp h (sm _)
  · have hto := toSt_is l hl
    refine ifn h (bnd hto ?_)
    have hml : (l.map toSx).length ≤ 140737488351232 := by rw [List.length_map]; have := st_len hl; omega
    have hmr : ∀ x ∈ l.map toSx, x.f1.length * 8 ≤ 140737488351232 := by
      intro x hx
      obtain ⟨y, hy, rfl⟩ := List.mem_map.1 hx
      exact (hl.2 y hy).2.1
    generalize l.map toSx = m at hto hml hmr
    have hsp := specSteps_is m hml hmr 40
    have hend : ∀ r : ByteArray × Int, Ev (fun k => laws_FnExactProofText.j0 k l m (r.2 != r.2)) true := fun r => by
      refine stp (fun k => laws_FnExactProofText.j0.eq_2 ..) (ifn (by simp) (bnd hto (bnd (eqSt_self m hml (fun x hx => by have := hmr x hx; omega)) (ifp rfl (sm _)))))
    by_cases hle : m.length ≤ 4096
    · cases hc : stepsB m 40 with
      | true =>
        rw [hc] at hsp
        have h1 : Ev (fun k => spec_ProofText.f k m) (sB (proofT m), 0) := ifn (by omega) (bnd hsp (ifp rfl (bnd0 (show spec_l03Text.f m = some (sB (proofT m)) by unfold spec_l03Text.f; rw [if_pos hc]) (sm _))))
        have h2 : impl_ProofText.f m = some (sB (proofT m), 0) := by unfold impl_ProofText.f; rw [if_pos hle, if_pos hc]
        exact bnd h1 (bnd hto (bnd0 h2 (ifp rfl (hend (sB (proofT m), 0)))))
      | false =>
        rw [hc] at hsp
        have h1 : Ev (fun k => spec_ProofText.f k m) (sB [], 1) := ifn (by omega) (bnd hsp (ifn Bool.false_ne_true (sm _)))
        have h2 : impl_ProofText.f m = some (sB [], 1) := by unfold impl_ProofText.f; rw [if_pos hle, hc, if_neg Bool.false_ne_true]
        exact bnd h1 (bnd hto (bnd0 h2 (ifp rfl (hend (sB [], 1)))))
    · have h1 : Ev (fun k => spec_ProofText.f k m) (sB [], 2) := ifp (by omega) (sm _)
      have h2 : impl_ProofText.f m = some (sB [], 2) := by unfold impl_ProofText.f; rw [if_neg hle]
      exact bnd h1 (bnd hto (bnd0 h2 (ifp rfl (hend (sB [], 2)))))

end Go.Proofs.YtelfahcjeldliaaDoor.Pure
