/- FnExactEvalCnf: the pure statement behind the law: the program's answer on a formula and values is the reference's. No conditions. -/
import Derived.Test.YtdmeonkkbihbhaaDefFnExactEvalCnf
import Derived.Test.YtdmeonkkbihbhaaPlain
set_option linter.unusedVariables false
set_option linter.unusedSimpArgs false
namespace Go.Proofs.Ytdmeonkkbihbhaa.Pure
open Go.RowKit Go.Proofs.Ytdmeonkkbihbhaa Go.Proofs.Ytdmeonkkbihbhaa.PFnExactEvalCnf Go.Proofs.YtdmeonkkbihbhaaW.PrintWords Go.Proofs.YtdmeonkkbihbhaaW.PrintLast Go.Proofs.Ytdmeonkkbihbhaa.Plain

theorem in_is (x lo hi : Int) : spec_l01In.f x lo hi = some (decide (lo ≤ x) && decide (x ≤ hi)) := by
  unfold spec_l01In.f
  by_cases h : x ≥ lo
  · rw [if_pos h, decide_eq_true h, Bool.true_and]
  · rw [if_neg h, decide_eq_false h, Bool.false_and]
/-- what is left when a list is counted -/
def szI (left : Int) (c : List Int) : Int := if left - (c.length : Int) < 0 then -1 else left - (c.length : Int)
theorem szI_le (left : Int) (c : List Int) (h : 0 ≤ left) : szI left c ≤ left := by unfold szI; split <;> omega
theorem szI_neg (left : Int) (c : List Int) (h : szI left c < 0) : szI left c = -1 := by unfold szI at *; split at h <;> simp_all <;> omega
theorem szI_is (c : List Int) (left : Int) (h0 : 0 ≤ left) (h1 : left ≤ 1048576) (hc : c.length ≤ 140737488351232) : laws_szIntS.f c left = some (szI left c) := by
  unfold laws_szIntS.f szI
  rw [w64 (by omega) (by omega)]
  by_cases h : left - (c.length : Int) < 0
  · rw [if_pos h, if_pos h]
  · rw [if_neg h, if_neg h]
theorem toI_is (l : List Int) (hl : l.length ≤ 35184372088832) : Ev (fun k => laws_toIntS.f k l) l := by
  refine evc (fun k => laws_toIntS.f.eq_1 ..) (ifp (by omega) (ifp (by omega) ?_))
  have := copy (fun x : Int => x) l (fun i out k => laws_toIntS.l0 k l out i) ?_ ?_ (List.replicate (l.length : Int).toNat 0) (by simp)
  · simpa using this
  · intro out
    exact stp (fun k => laws_toIntS.l0.eq_2 ..) (ifn (by omega) (sm _))
  · intro i out r x hx hlen hk
    have hi : i < l.length := (List.getElem?_eq_some_iff.1 hx).1
    refine stp (fun k => laws_toIntS.l0.eq_2 ..) (ifp (by omega) (ifp (by omega) (ifp (by omega) ?_)))
    rw [show rd l (i : Int) = x from getD_some hx, up (by omega) (by omega : (i : Int) < (l.length : Int)) (by omega), Int.toNat_natCast]
    exact hk
theorem eqI_self (l : List Int) (hl : l.length ≤ 140737488351232) : Ev (fun k => laws_eqIntS.f k l l) true := by
  refine evc (fun k => laws_eqIntS.f.eq_1 ..) (ifp rfl ?_)
  refine same l (fun i k => laws_eqIntS.l0 k l l i) ?_ ?_
  · exact stp (fun k => laws_eqIntS.l0.eq_2 ..) (ifn (by omega) (sm _))
  · intro i x hx hk
    have hi : i < l.length := (List.getElem?_eq_some_iff.1 hx).1
    refine stp (fun k => laws_eqIntS.l0.eq_2 ..) (ifp (by omega) (ifp (by omega) (ifp (by omega) (ifp rfl ?_))))
    rw [up (by omega) (by omega : (i : Int) < (l.length : Int)) (by omega)]
    exact hk
/-- rows of numbers within the reach -/
abbrev RowsOK (l : List (List Int)) : Prop := Reads.WFL 24 (Reads.WFL 8 Reads.WFI) l
theorem rows_len {l : List (List Int)} (h : RowsOK l) : l.length * 24 ≤ 140737488351232 := h.1
theorem row_len {l : List (List Int)} (h : RowsOK l) {i : Nat} {c : List Int} (hc : l[i]? = some c) : c.length * 8 ≤ 140737488351232 := (h.2 c (List.mem_of_getElem? hc)).1
theorem row_num {l : List (List Int)} (h : RowsOK l) {c : List Int} (hc : c ∈ l) {x : Int} (hx : x ∈ c) : -9223372036854775808 ≤ x ∧ x ≤ 9223372036854775807 := (h.2 c hc).2 x hx
theorem szSS_is (l : List (List Int)) (h : RowsOK l) (left : Int) (h0 : 0 ≤ left) (h1 : left ≤ 1048576) : ∃ v : Int, v ≤ 1048576 ∧ Ev (fun k => laws_szIntSS.f k l left) v := by
  have hl := rows_len h
  by_cases hs : left - (l.length : Int) < 0
  · exact ⟨-1, by omega, evc (fun k => laws_szIntSS.f.eq_1 ..) (ifp (by rw [w64 (by omega) (by omega)]; exact hs) (sm _))⟩
  · have key : ∀ (d i : Nat) (lf : Int), i + d = l.length → 0 ≤ lf → lf ≤ 1048576 → ∃ v : Int, v ≤ 1048576 ∧ Ev (fun k => laws_szIntSS.l0 k l lf (i : Int)) v := by
      intro d
      induction d with
      | zero =>
        intro i lf hi hf0 hf1
        exact ⟨lf, hf1, stp (fun k => laws_szIntSS.l0.eq_2 ..) (ifn (by omega) (sm _))⟩
      | succ d ih =>
        intro i lf hi hf0 hf1
        have hil : i < l.length := by omega
        have hx : l[i]? = some l[i] := List.getElem?_eq_getElem hil
        have hlen := row_len h hx
        have hsz := szI_is l[i] lf hf0 hf1 (by omega)
        by_cases hn : szI lf l[i] < 0
        · refine ⟨-1, by omega, stp (fun k => laws_szIntSS.l0.eq_2 ..) (ifp (by omega) (ifp (by omega) ?_))⟩
          rw [show rd_L1 l (i : Int) = l[i] from getD_some hx]
          exact bnd0 hsz (ifp hn (sm _))
        · obtain ⟨v, hv, hev⟩ := ih (i + 1) (szI lf l[i]) (by omega) (by omega) (by have := szI_le lf l[i] hf0; omega)
          rw [show ((i + 1 : Nat) : Int) = (i : Int) + 1 by omega] at hev
          refine ⟨v, hv, stp (fun k => laws_szIntSS.l0.eq_2 ..) (ifp (by omega) (ifp (by omega) ?_))⟩
          rw [show rd_L1 l (i : Int) = l[i] from getD_some hx, up (by omega) (by omega : (i : Int) < (l.length : Int)) (by omega)]
          exact bnd0 hsz (ifn hn hev)
    obtain ⟨v, hv, hev⟩ := key l.length 0 (left - (l.length : Int)) (by omega) (by omega) (by omega)
    refine ⟨v, hv, evc (fun k => laws_szIntSS.f.eq_1 ..) (ifn (by rw [w64 (by omega) (by omega)]; exact hs) ?_)⟩
    rw [w64 (by omega) (by omega)]
    exact hev
theorem szCnf_is (a : Int) (l : List (List Int)) (h : RowsOK l) (left : Int) (h0 : 0 ≤ left) (h1 : left ≤ 1048576) : ∃ v : Int, v ≤ 1048576 ∧ Ev (fun k => laws_szCnf.f k a l left) v := by
  obtain ⟨v, hv, hev⟩ := szSS_is l h left h0 h1
  by_cases hn : v < 0
  · exact ⟨-1, by omega, bnd hev (ifp hn (sm _))⟩
  · exact ⟨v, hv, bnd hev (ifn hn (sm _))⟩
theorem toSS_is (l : List (List Int)) (h : RowsOK l) : Ev (fun k => laws_toIntSS.f k l) l := by
  have hl := rows_len h
  refine evc (fun k => laws_toIntSS.f.eq_1 ..) (ifp (by omega) (ifp (by omega) ?_))
  have := copy (fun x : List Int => x) l (fun i out k => laws_toIntSS.l0 k l out i) ?_ ?_ (List.replicate (l.length : Int).toNat []) (by simp)
  · simpa using this
  · intro out
    exact stp (fun k => laws_toIntSS.l0.eq_2 ..) (ifn (by omega) (sm _))
  · intro i out r x hx hlen hk
    have hi : i < l.length := (List.getElem?_eq_some_iff.1 hx).1
    have hxl := row_len h hx
    refine stp (fun k => laws_toIntSS.l0.eq_2 ..) (ifp (by omega) (ifp (by omega) ?_))
    rw [show rd_L1 l (i : Int) = x from getD_some hx, up (by omega) (by omega : (i : Int) < (l.length : Int)) (by omega), Int.toNat_natCast]
    exact bnd (toI_is x (by omega)) (ifp (by omega) hk)
theorem toCnf_is (a : Int) (l : List (List Int)) (h : RowsOK l) : Ev (fun k => laws_toCnf.f k a l) (a, l) := bnd (toSS_is l h) (sm _)
theorem eqSS_self (l : List (List Int)) (h : RowsOK l) : Ev (fun k => laws_eqIntSS.f k l l) true := by
  have hl := rows_len h
  refine evc (fun k => laws_eqIntSS.f.eq_1 ..) (ifp rfl ?_)
  refine same l (fun i k => laws_eqIntSS.l0 k l l i) ?_ ?_
  · exact stp (fun k => laws_eqIntSS.l0.eq_2 ..) (ifn (by omega) (sm _))
  · intro i x hx hk
    have hi : i < l.length := (List.getElem?_eq_some_iff.1 hx).1
    have hxl := row_len h hx
    refine stp (fun k => laws_eqIntSS.l0.eq_2 ..) (ifp (by omega) (ifp (by omega) (ifp (by omega) ?_)))
    rw [show rd_L1 l (i : Int) = x from getD_some hx, up (by omega) (by omega : (i : Int) < (l.length : Int)) (by omega)]
    exact bnd (eqI_self x (by omega)) (ifp rfl hk)
theorem eqCnf_self (a : Int) (l : List (List Int)) (h : RowsOK l) : Ev (fun k => laws_eqCnf.f k a l a l) true :=
  evc (fun k => laws_eqCnf.f.eq_1 ..) (ifp rfl (bnd (eqSS_self l h) (ifp rfl (sm _))))

theorem specClause_is (c : List Int) (vars : Int) (hc : c.length * 8 ≤ 140737488351232) : Ev (fun k => spec_l01Clause.f k c vars) (clauseB c vars) := by
  unfold clauseB
  rw [not_any_not c (fun x => litB x vars)]
  refine evc (fun k => spec_l01Clause.f.eq_1 ..) ?_
  by_cases h : c.length ≤ 12
  · rw [decide_eq_true h, Bool.true_and]
    refine ifn (by omega) ?_
    refine allL c (fun x => litB x vars) (fun i k => spec_l01Clause.l0 k c vars i) ?_ ?_
    · exact stp (fun k => spec_l01Clause.l0.eq_2 ..) (ifn (by omega) (sm _))
    · intro i x r hx hk
      have hi : i < c.length := (List.getElem?_eq_some_iff.1 hx).1
      refine stp (fun k => spec_l01Clause.l0.eq_2 ..) (ifp (by omega) (ifp (by omega) ?_))
      rw [show rd c (i : Int) = x from getD_some hx, up (by omega) (by omega : (i : Int) < (c.length : Int)) (by omega)]
      unfold litB
      by_cases hz : x = 0
      · refine ifp hz ?_
        rw [decide_eq_false (by simpa using hz)]
        exact sm _
      · refine ifn hz (bnd0 (in_is _ _ _) ?_)
        rw [decide_eq_true hz, Bool.true_and]
        cases hb : decide (wrap64 (-vars) ≤ x) && decide (x ≤ vars) with
        | true => exact ifp rfl (by simpa using hk)
        | false => exact ifn (by simp) (sm _)
  · rw [decide_eq_false h, Bool.false_and]
    exact ifp (by omega) (sm _)
theorem specCnf_is (a : Int) (l : List (List Int)) (h : RowsOK l) : Ev (fun k => spec_CnfOK.f k a l) (cnfB a l) := by
  have hl := rows_len h
  unfold cnfB
  rw [not_any_not l (fun c => clauseB c a), ← Bool.and_assoc]
  refine bnd0 (in_is _ _ _) ?_
  cases h1 : decide (0 ≤ a) && decide (a ≤ 40) with
  | false =>
    rw [Bool.false_and]
    exact ifn (by simp) (stp (fun k => spec_CnfOK.j0.eq_2 ..) (ifp rfl (sm _)))
  | true =>
    rw [Bool.true_and]
    refine ifp rfl (stp (fun k => spec_CnfOK.j0.eq_2 ..) ?_)
    by_cases h2 : l.length ≤ 300
    · rw [decide_eq_true h2, Bool.true_and]
      refine ifn (by simp; omega) ?_
      refine allL l (fun c => clauseB c a) (fun i k => spec_CnfOK.l0 k i a l) ?_ ?_
      · exact stp (fun k => spec_CnfOK.l0.eq_2 ..) (ifn (by omega) (sm _))
      · intro i x r hx hk
        have hi : i < l.length := (List.getElem?_eq_some_iff.1 hx).1
        have hxl := row_len h hx
        refine stp (fun k => spec_CnfOK.l0.eq_2 ..) (ifp (by omega) (ifp (by omega) ?_))
        rw [show rd_L1 l (i : Int) = x from getD_some hx, up (by omega) (by omega : (i : Int) < (l.length : Int)) (by omega)]
        refine bnd (specClause_is x a hxl) ?_
        cases hb : clauseB x a with
        | true => exact ifp rfl (by simpa using hk)
        | false => exact ifn (by simp) (sm _)
    · rw [decide_eq_false h2, Bool.false_and]
      exact ifp (by simp; omega) (sm _)
theorem toB_is (l : List Bool) (hl : l.length ≤ 281474976710656) : Ev (fun k => laws_toBoolS.f k l) l := by
  refine evc (fun k => laws_toBoolS.f.eq_1 ..) (ifp (by omega) (ifp (by omega) ?_))
  have := copy (fun x : Bool => x) l (fun i out k => laws_toBoolS.l0 k l out i) ?_ ?_ (List.replicate (l.length : Int).toNat false) (by simp)
  · simpa using this
  · intro out
    exact stp (fun k => laws_toBoolS.l0.eq_2 ..) (ifn (by omega) (sm _))
  · intro i out r x hx hlen hk
    have hi : i < l.length := (List.getElem?_eq_some_iff.1 hx).1
    refine stp (fun k => laws_toBoolS.l0.eq_2 ..) (ifp (by omega) (ifp (by omega) (ifp (by omega) ?_)))
    rw [show rdOf false l (i : Int) = x from getD_some hx, up (by omega) (by omega : (i : Int) < (l.length : Int)) (by omega), Int.toNat_natCast]
    exact hk
theorem eqB_self (l : List Bool) (hl : l.length ≤ 281474976710656) : Ev (fun k => laws_eqBoolS.f k l l) true := by
  refine evc (fun k => laws_eqBoolS.f.eq_1 ..) (ifp rfl ?_)
  refine same l (fun i k => laws_eqBoolS.l0 k l l i) ?_ ?_
  · exact stp (fun k => laws_eqBoolS.l0.eq_2 ..) (ifn (by omega) (sm _))
  · intro i x hx hk
    have hi : i < l.length := (List.getElem?_eq_some_iff.1 hx).1
    refine stp (fun k => laws_eqBoolS.l0.eq_2 ..) (ifp (by omega) (ifp (by omega) (ifp (by omega) (ifn (by simp) ?_))))
    rw [up (by omega) (by omega : (i : Int) < (l.length : Int)) (by omega)]
    exact hk
theorem true_is (vals : List Bool) (x : Int) (hv : litV vals x = true) (hl : vals.length ≤ 4096) : spec_l01True.f vals x = some (litT vals x) := by
  simp only [litV, Bool.and_eq_true, decide_eq_true_eq] at hv
  obtain ⟨h0, h1⟩ := hv
  have habs : spec_l01Abs.f x = some (x.natAbs : Int) := by
    unfold spec_l01Abs.f mx
    rw [w64 (by omega) (by omega)]
    by_cases h : x < -x
    · rw [if_pos h]; congr 1; omega
    · rw [if_neg h]; congr 1; omega
  unfold spec_l01True.f litT
  rw [habs]
  simp only [Option.bind_some]
  rw [w64 (by omega) (by omega), if_pos (by omega), if_pos (by omega), show ((x.natAbs : Int) - 1) = ((x.natAbs - 1 : Nat) : Int) by omega]
theorem eval_is (a : Int) (l : List (List Int)) (vals : List Bool) (hfit : fitB l vals = true) (hll : l.length * 24 ≤ 140737488351232) (hcl : ∀ c ∈ l, c.length * 8 ≤ 140737488351232) : Ev (fun k => spec_l01Eval.f k a l vals) (modelB l vals) := by
  simp only [fitB, Bool.and_eq_true, decide_eq_true_eq] at hfit
  obtain ⟨hl, hall⟩ := hfit
  refine evc (fun k => spec_l01Eval.f.eq_1 ..) ?_
  unfold modelB
  refine allL l (fun c => c.any fun x => litT vals x) (fun i k => spec_l01Eval.l0 k vals i a l) ?_ ?_
  · exact stp (fun k => spec_l01Eval.l0.eq_2 ..) (ifn (by omega) (sm _))
  · intro i c r hc hk
    have hi : i < l.length := (List.getElem?_eq_some_iff.1 hc).1
    have hm : c ∈ l := List.mem_of_getElem? hc
    have hcl' := hcl c hm
    have hcv := List.all_eq_true.1 hall c hm
    have hrd : rd_L1 l (i : Int) = c := getD_some hc
    have key : ∀ (d k : Nat) (ok : Bool), k + d = c.length → Ev (fun q => spec_l01Eval.l1 q vals (i : Int) ok (k : Int) a l) ((ok || (c.drop k).any fun x => litT vals x) && r) := by
      intro d
      induction d with
      | zero =>
        intro k ok hd
        refine stp (fun q => spec_l01Eval.l1.eq_2 ..) (ifp (by omega) (ifp (by omega) (ifn (by rw [hrd]; omega) ?_)))
        rw [List.drop_of_length_le (by omega), List.any_nil, Bool.or_false, up (by omega) (by omega : (i : Int) < (l.length : Int)) (by omega)]
        cases ok with
        | true => exact ifp rfl (by simpa using hk)
        | false => exact ifn (by simp) (sm _)
      | succ d ih =>
        intro k ok hd
        have hkl : k < c.length := by omega
        have hih := fun ok => ih (k + 1) ok (by omega)
        rw [show ((k + 1 : Nat) : Int) = (k : Int) + 1 by omega] at hih
        refine stp (fun q => spec_l01Eval.l1.eq_2 ..) (ifp (by omega) (ifp (by omega) (ifp (by rw [hrd]; omega) ?_)))
        rw [hrd, up (by omega) (by omega : (k : Int) < (c.length : Int)) (by omega), List.drop_eq_getElem_cons hkl, List.any_cons]
        cases ok with
        | true => exact ifp rfl (by simpa using hih true)
        | false =>
          refine ifn (by simp) (ifp (by omega) ?_)
          rw [show rd c (k : Int) = c[k] from getD_some (List.getElem?_eq_getElem hkl)]
          refine bnd0 (true_is vals _ (List.all_eq_true.1 hcv _ (List.getElem_mem hkl)) hl) ?_
          simpa using hih (litT vals c[k])
    refine stp (fun q => spec_l01Eval.l0.eq_2 ..) (ifp (by omega) ?_)
    have := key c.length 0 false (by omega)
    simpa using this
/-- a right formula's literals are those of so many values -/
theorem fit_of (a : Int) (l : List (List Int)) (vals : List Bool) (h : cnfB a l = true) (hv : (vals.length : Int) = a) : fitB l vals = true := by
  simp only [cnfB, Bool.and_eq_true, decide_eq_true_eq] at h
  obtain ⟨h0, h1, h2, h3⟩ := h
  rw [not_any_not l (fun c => clauseB c a)] at h3
  unfold fitB
  rw [decide_eq_true (by omega), Bool.true_and]
  refine List.all_eq_true.2 (fun c hc => ?_)
  have h4 := List.all_eq_true.1 h3 c hc
  simp only [clauseB, Bool.and_eq_true, decide_eq_true_eq] at h4
  have h5 := h4.2
  rw [not_any_not c (fun x => litB x a)] at h5
  refine List.all_eq_true.2 (fun x hx => ?_)
  have h6 := List.all_eq_true.1 h5 x hx
  simp only [litB, Bool.and_eq_true, decide_eq_true_eq] at h6
  obtain ⟨h7, h8, h9⟩ := h6
  rw [w64 (by omega) (by omega)] at h8
  simp only [litV, Bool.and_eq_true, decide_eq_true_eq]
  exact ⟨h7, by omega⟩
theorem cnf_bd {a : Int} {l : List (List Int)} (h : cnfB a l = true) : 0 ≤ a ∧ a ≤ 40 ∧ l.length ≤ 300 ∧ ∀ c ∈ l, c.length ≤ 12 := by
  simp only [cnfB, Bool.and_eq_true, decide_eq_true_eq] at h
  obtain ⟨h0, h1, h2, h3⟩ := h
  rw [not_any_not l (fun c => clauseB c a)] at h3
  refine ⟨h0, h1, h2, fun c hc => ?_⟩
  have h4 := List.all_eq_true.1 h3 c hc
  simp only [clauseB, Bool.and_eq_true, decide_eq_true_eq] at h4
  exact h4.1

/-- What both answer. -/
def ans (a : Int) (l : List (List Int)) (vals : List Bool) : Bool × Int :=
  if (vals.length : Int) > 4096 then (false, 2) else if cnfB a l = true then (if (vals.length : Int) = a then (modelB l vals, 0) else (false, 5)) else (false, 1)

theorem spec_is (a : Int) (l : List (List Int)) (h : RowsOK l) (vals : List Bool) : Ev (fun k => spec_EvalCnf.f k a l vals) (ans a l vals) := by
  refine evc (fun k => spec_EvalCnf.f.eq_1 ..) ?_
  unfold ans
  by_cases h1 : (vals.length : Int) > 4096
  · rw [if_pos h1]; exact ifp h1 (sm _)
  · rw [if_neg h1]
    refine ifn h1 (bnd (specCnf_is a l h) ?_)
    by_cases h2 : cnfB a l = true
    · rw [if_pos h2]
      refine ifp h2 ?_
      by_cases h3 : (vals.length : Int) = a
      · rw [if_pos h3]
        exact ifp h3 (bnd (eval_is a l vals (fit_of a l vals h2 h3) (rows_len h) (fun c hc => (h.2 c hc).1)) (sm _))
      · rw [if_neg h3]; exact ifn h3 (sm _)
    · rw [if_neg h2]; exact ifn h2 (sm _)
theorem impl_is (a : Int) (l : List (List Int)) (vals : List Bool) : impl_EvalCnf.f a l vals = some (ans a l vals) := by
  unfold impl_EvalCnf.f ans
  by_cases h1 : (vals.length : Int) > 4096
  · rw [if_pos h1, if_pos h1]
  · rw [if_neg h1, if_neg h1, show impl_isCnf.f a l = some (cnfB a l) from rfl]
    simp only [Option.bind_some]
    by_cases h2 : cnfB a l = true
    · rw [if_pos h2, if_pos h2]
      by_cases h3 : (vals.length : Int) = a
      · rw [if_pos h3, if_pos h3]
        unfold impl_isModel.f
        rw [if_pos (fit_of a l vals h2 h3)]
        rfl
      · rw [if_neg h3, if_neg h3]
    · rw [if_neg h2, if_neg h2]

theorem FnExactEvalCnf : laws_FnExactEvalCnf.Pure := by
  intro a l vals ha hl hv
  refine Ev.rounds ?_
  refine evc (fun k => laws_FnExactEvalCnf.f.eq_1 ..) ?_
  have hvl := hv.1
  by_cases hbig : (vals.length : Int) > 1048576
  · exact ifp hbig (sm _)
  · refine ifn hbig ?_
    obtain ⟨v, hv, hsz⟩ := szCnf_is a l hl 1048576 (by omega) (by omega)
    refine bnd hsz ?_
    by_cases h : v < 0
    · exact ifp h (sm _)
    · have hto := toCnf_is a l hl
      have htb := toB_is vals (by omega)
      refine ifn h (bnd hto (bnd htb (bnd (spec_is a l hl vals) (bnd hto (bnd htb (bnd0 (impl_is a l vals) (ifn (by simp) ?_)))))))
      refine stp (fun k => laws_FnExactEvalCnf.j0.eq_2 ..) (ifn (by simp) ?_)
      exact bnd hto (bnd (eqCnf_self a l hl) (ifp rfl (bnd htb (bnd (eqB_self vals (by omega)) (ifp rfl (sm _))))))

end Go.Proofs.Ytdmeonkkbihbhaa.Pure
