/- FnExactCountModels: the pure statement behind the law: the program counts as many models as the reference. No conditions. -/
import Derived.Test.YtdmeonkkbihbhaaDefFnExactCountModels
import Derived.Test.YtdmeonkkbihbhaaPlain
set_option linter.unusedVariables false
set_option linter.unusedSimpArgs false
namespace Go.Proofs.Ytdmeonkkbihbhaa.Pure
open Go.RowKit Go.Proofs.Ytdmeonkkbihbhaa Go.Proofs.Ytdmeonkkbihbhaa.PFnExactCountModels Go.Proofs.YtdmeonkkbihbhaaW.PrintWords Go.Proofs.YtdmeonkkbihbhaaW.PrintLast Go.Proofs.YtdmeonkkbihbhaaW.PrintMore Go.Proofs.Ytdmeonkkbihbhaa.Plain

theorem in_is (x lo hi : Int) : spec_l01In.f x lo hi = some (decide (lo ≤ x) && decide (x ≤ hi)) := by
  unfold spec_l01In.f
  by_cases h : x ≥ lo
  · rw [if_pos h, decide_eq_true h, Bool.true_and]
  · rw [if_neg h, decide_eq_false h, Bool.false_and]
/-- what is left when a list is counted -/
def szI (left : Int) (c : List Int) : Int := if left - (c.length : Int) < 0 then -1 else left - (c.length : Int)
theorem szI_le (left : Int) (c : List Int) (h : 0 ≤ left) : szI left c ≤ left := by unfold szI; split <;> omega
theorem szI_neg (left : Int) (c : List Int) (h : szI left c < 0) : szI left c = -1 := by unfold szI at *; split at h <;> simp_all <;> omega
theorem szI_is (c : List Int) (left : Int) (h0 : 0 ≤ left) (h1 : left ≤ 1048576) (hc : c.length ≤ 140737488351232) : laws_szIntS.f c left = some (szI left c) := by
  unfold laws_szIntS.f szI
  rw [w64 (by omega) (by omega)]
  by_cases h : left - (c.length : Int) < 0
  · rw [if_pos h, if_pos h]
  · rw [if_neg h, if_neg h]
theorem toI_is (l : List Int) (hl : l.length ≤ 35184372088832) : Ev (fun k => laws_toIntS.f k l) l := by
  refine evc (fun k => laws_toIntS.f.eq_1 ..) (ifp (by omega) (ifp (by omega) ?_))
  have := copy (fun x : Int => x) l (fun i out k => laws_toIntS.l0 k l out i) ?_ ?_ (List.replicate (l.length : Int).toNat 0) (by simp)
  · simpa using this
  · intro out
    exact stp (fun k => laws_toIntS.l0.eq_2 ..) (ifn (by omega) (sm _))
  · intro i out r x hx hlen hk
    have hi : i < l.length := (List.getElem?_eq_some_iff.1 hx).1
    refine stp (fun k => laws_toIntS.l0.eq_2 ..) (ifp (by omega) (ifp (by omega) (ifp (by omega) ?_)))
    rw [show rd l (i : Int) = x from getD_some hx, up (by omega) (by omega : (i : Int) < (l.length : Int)) (by omega), Int.toNat_natCast]
    exact hk
theorem eqI_self (l : List Int) (hl : l.length ≤ 140737488351232) : Ev (fun k => laws_eqIntS.f k l l) true := by
  refine evc (fun k => laws_eqIntS.f.eq_1 ..) (ifp rfl ?_)
  refine same l (fun i k => laws_eqIntS.l0 k l l i) ?_ ?_
  · exact stp (fun k => laws_eqIntS.l0.eq_2 ..) (ifn (by omega) (sm _))
  · intro i x hx hk
    have hi : i < l.length := (List.getElem?_eq_some_iff.1 hx).1
    refine stp (fun k => laws_eqIntS.l0.eq_2 ..) (ifp (by omega) (ifp (by omega) (ifp (by omega) (ifp rfl ?_))))
    rw [up (by omega) (by omega : (i : Int) < (l.length : Int)) (by omega)]
    exact hk
/-- rows of numbers within the reach -/
abbrev RowsOK (l : List (List Int)) : Prop := Reads.WFL 24 (Reads.WFL 8 Reads.WFI) l
theorem rows_len {l : List (List Int)} (h : RowsOK l) : l.length * 24 ≤ 140737488351232 := h.1
theorem row_len {l : List (List Int)} (h : RowsOK l) {i : Nat} {c : List Int} (hc : l[i]? = some c) : c.length * 8 ≤ 140737488351232 := (h.2 c (List.mem_of_getElem? hc)).1
theorem row_num {l : List (List Int)} (h : RowsOK l) {c : List Int} (hc : c ∈ l) {x : Int} (hx : x ∈ c) : -9223372036854775808 ≤ x ∧ x ≤ 9223372036854775807 := (h.2 c hc).2 x hx
theorem szSS_is (l : List (List Int)) (h : RowsOK l) (left : Int) (h0 : 0 ≤ left) (h1 : left ≤ 1048576) : ∃ v : Int, v ≤ 1048576 ∧ Ev (fun k => laws_szIntSS.f k l left) v := by
  have hl := rows_len h
  by_cases hs : left - (l.length : Int) < 0
  · exact ⟨-1, by omega, evc (fun k => laws_szIntSS.f.eq_1 ..) (ifp (by rw [w64 (by omega) (by omega)]; exact hs) (sm _))⟩
  · have key : ∀ (d i : Nat) (lf : Int), i + d = l.length → 0 ≤ lf → lf ≤ 1048576 → ∃ v : Int, v ≤ 1048576 ∧ Ev (fun k => laws_szIntSS.l0 k l lf (i : Int)) v := by
      intro d
      induction d with
      | zero =>
        intro i lf hi hf0 hf1
        exact ⟨lf, hf1, stp (fun k => laws_szIntSS.l0.eq_2 ..) (ifn (by omega) (sm _))⟩
      | succ d ih =>
        intro i lf hi hf0 hf1
        have hil : i < l.length := by omega
        have hx : l[i]? = some l[i] := List.getElem?_eq_getElem hil
        have hlen := row_len h hx
        have hsz := szI_is l[i] lf hf0 hf1 (by omega)
        by_cases hn : szI lf l[i] < 0
        · refine ⟨-1, by omega, stp (fun k => laws_szIntSS.l0.eq_2 ..) (ifp (by omega) (ifp (by omega) ?_))⟩
          rw [show rd_L1 l (i : Int) = l[i] from getD_some hx]
          exact bnd0 hsz (ifp hn (sm _))
        · obtain ⟨v, hv, hev⟩ := ih (i + 1) (szI lf l[i]) (by omega) (by omega) (by have := szI_le lf l[i] hf0; omega)
          rw [show ((i + 1 : Nat) : Int) = (i : Int) + 1 by omega] at hev
          refine ⟨v, hv, stp (fun k => laws_szIntSS.l0.eq_2 ..) (ifp (by omega) (ifp (by omega) ?_))⟩
          rw [show rd_L1 l (i : Int) = l[i] from getD_some hx, up (by omega) (by omega : (i : Int) < (l.length : Int)) (by omega)]
          exact bnd0 hsz (ifn hn hev)
    obtain ⟨v, hv, hev⟩ := key l.length 0 (left - (l.length : Int)) (by omega) (by omega) (by omega)
    refine ⟨v, hv, evc (fun k => laws_szIntSS.f.eq_1 ..) (ifn (by rw [w64 (by omega) (by omega)]; exact hs) ?_)⟩
    rw [w64 (by omega) (by omega)]
    exact hev
theorem szCnf_is (a : Int) (l : List (List Int)) (h : RowsOK l) (left : Int) (h0 : 0 ≤ left) (h1 : left ≤ 1048576) : ∃ v : Int, v ≤ 1048576 ∧ Ev (fun k => laws_szCnf.f k a l left) v := by
  obtain ⟨v, hv, hev⟩ := szSS_is l h left h0 h1
  by_cases hn : v < 0
  · exact ⟨-1, by omega, bnd hev (ifp hn (sm _))⟩
  · exact ⟨v, hv, bnd hev (ifn hn (sm _))⟩
theorem toSS_is (l : List (List Int)) (h : RowsOK l) : Ev (fun k => laws_toIntSS.f k l) l := by
  have hl := rows_len h
  refine evc (fun k => laws_toIntSS.f.eq_1 ..) (ifp (by omega) (ifp (by omega) ?_))
  have := copy (fun x : List Int => x) l (fun i out k => laws_toIntSS.l0 k l out i) ?_ ?_ (List.replicate (l.length : Int).toNat []) (by simp)
  · simpa using this
  · intro out
    exact stp (fun k => laws_toIntSS.l0.eq_2 ..) (ifn (by omega) (sm _))
  · intro i out r x hx hlen hk
    have hi : i < l.length := (List.getElem?_eq_some_iff.1 hx).1
    have hxl := row_len h hx
    refine stp (fun k => laws_toIntSS.l0.eq_2 ..) (ifp (by omega) (ifp (by omega) ?_))
    rw [show rd_L1 l (i : Int) = x from getD_some hx, up (by omega) (by omega : (i : Int) < (l.length : Int)) (by omega), Int.toNat_natCast]
    exact bnd (toI_is x (by omega)) (ifp (by omega) hk)
theorem toCnf_is (a : Int) (l : List (List Int)) (h : RowsOK l) : Ev (fun k => laws_toCnf.f k a l) (a, l) := bnd (toSS_is l h) (sm _)
theorem eqSS_self (l : List (List Int)) (h : RowsOK l) : Ev (fun k => laws_eqIntSS.f k l l) true := by
  have hl := rows_len h
  refine evc (fun k => laws_eqIntSS.f.eq_1 ..) (ifp rfl ?_)
  refine same l (fun i k => laws_eqIntSS.l0 k l l i) ?_ ?_
  · exact stp (fun k => laws_eqIntSS.l0.eq_2 ..) (ifn (by omega) (sm _))
  · intro i x hx hk
    have hi : i < l.length := (List.getElem?_eq_some_iff.1 hx).1
    have hxl := row_len h hx
    refine stp (fun k => laws_eqIntSS.l0.eq_2 ..) (ifp (by omega) (ifp (by omega) (ifp (by omega) ?_)))
    rw [show rd_L1 l (i : Int) = x from getD_some hx, up (by omega) (by omega : (i : Int) < (l.length : Int)) (by omega)]
    exact bnd (eqI_self x (by omega)) (ifp rfl hk)
theorem eqCnf_self (a : Int) (l : List (List Int)) (h : RowsOK l) : Ev (fun k => laws_eqCnf.f k a l a l) true :=
  evc (fun k => laws_eqCnf.f.eq_1 ..) (ifp rfl (bnd (eqSS_self l h) (ifp rfl (sm _))))

theorem specClause_is (c : List Int) (vars : Int) (hc : c.length * 8 ≤ 140737488351232) : Ev (fun k => spec_l01Clause.f k c vars) (clauseB c vars) := by
  unfold clauseB
  rw [not_any_not c (fun x => litB x vars)]
  refine evc (fun k => spec_l01Clause.f.eq_1 ..) ?_
  by_cases h : c.length ≤ 12
  · rw [decide_eq_true h, Bool.true_and]
    refine ifn (by omega) ?_
    refine allL c (fun x => litB x vars) (fun i k => spec_l01Clause.l0 k c vars i) ?_ ?_
    · exact stp (fun k => spec_l01Clause.l0.eq_2 ..) (ifn (by omega) (sm _))
    · intro i x r hx hk
      have hi : i < c.length := (List.getElem?_eq_some_iff.1 hx).1
      refine stp (fun k => spec_l01Clause.l0.eq_2 ..) (ifp (by omega) (ifp (by omega) ?_))
      rw [show rd c (i : Int) = x from getD_some hx, up (by omega) (by omega : (i : Int) < (c.length : Int)) (by omega)]
      unfold litB
      by_cases hz : x = 0
      · refine ifp hz ?_
        rw [decide_eq_false (by simpa using hz)]
        exact sm _
      · refine ifn hz (bnd0 (in_is _ _ _) ?_)
        rw [decide_eq_true hz, Bool.true_and]
        cases hb : decide (wrap64 (-vars) ≤ x) && decide (x ≤ vars) with
        | true => exact ifp rfl (by simpa using hk)
        | false => exact ifn (by simp) (sm _)
  · rw [decide_eq_false h, Bool.false_and]
    exact ifp (by omega) (sm _)
theorem specCnf_is (a : Int) (l : List (List Int)) (h : RowsOK l) : Ev (fun k => spec_CnfOK.f k a l) (cnfB a l) := by
  have hl := rows_len h
  unfold cnfB
  rw [not_any_not l (fun c => clauseB c a), ← Bool.and_assoc]
  refine bnd0 (in_is _ _ _) ?_
  cases h1 : decide (0 ≤ a) && decide (a ≤ 40) with
  | false =>
    rw [Bool.false_and]
    exact ifn (by simp) (stp (fun k => spec_CnfOK.j0.eq_2 ..) (ifp rfl (sm _)))
  | true =>
    rw [Bool.true_and]
    refine ifp rfl (stp (fun k => spec_CnfOK.j0.eq_2 ..) ?_)
    by_cases h2 : l.length ≤ 300
    · rw [decide_eq_true h2, Bool.true_and]
      refine ifn (by simp; omega) ?_
      refine allL l (fun c => clauseB c a) (fun i k => spec_CnfOK.l0 k i a l) ?_ ?_
      · exact stp (fun k => spec_CnfOK.l0.eq_2 ..) (ifn (by omega) (sm _))
      · intro i x r hx hk
        have hi : i < l.length := (List.getElem?_eq_some_iff.1 hx).1
        have hxl := row_len h hx
        refine stp (fun k => spec_CnfOK.l0.eq_2 ..) (ifp (by omega) (ifp (by omega) ?_))
        rw [show rd_L1 l (i : Int) = x from getD_some hx, up (by omega) (by omega : (i : Int) < (l.length : Int)) (by omega)]
        refine bnd (specClause_is x a hxl) ?_
        cases hb : clauseB x a with
        | true => exact ifp rfl (by simpa using hk)
        | false => exact ifn (by simp) (sm _)
    · rw [decide_eq_false h2, Bool.false_and]
      exact ifp (by simp; omega) (sm _)
theorem true_is (vals : List Bool) (x : Int) (hv : litV vals x = true) (hl : vals.length ≤ 4096) : spec_l01True.f vals x = some (litT vals x) := by
  simp only [litV, Bool.and_eq_true, decide_eq_true_eq] at hv
  obtain ⟨h0, h1⟩ := hv
  have habs : spec_l01Abs.f x = some (x.natAbs : Int) := by
    unfold spec_l01Abs.f mx
    rw [w64 (by omega) (by omega)]
    by_cases h : x < -x
    · rw [if_pos h]; congr 1; omega
    · rw [if_neg h]; congr 1; omega
  unfold spec_l01True.f litT
  rw [habs]
  simp only [Option.bind_some]
  rw [w64 (by omega) (by omega), if_pos (by omega), if_pos (by omega), show ((x.natAbs : Int) - 1) = ((x.natAbs - 1 : Nat) : Int) by omega]
theorem eval_is (a : Int) (l : List (List Int)) (vals : List Bool) (hfit : fitB l vals = true) (hll : l.length * 24 ≤ 140737488351232) (hcl : ∀ c ∈ l, c.length * 8 ≤ 140737488351232) : Ev (fun k => spec_l01Eval.f k a l vals) (modelB l vals) := by
  simp only [fitB, Bool.and_eq_true, decide_eq_true_eq] at hfit
  obtain ⟨hl, hall⟩ := hfit
  refine evc (fun k => spec_l01Eval.f.eq_1 ..) ?_
  unfold modelB
  refine allL l (fun c => c.any fun x => litT vals x) (fun i k => spec_l01Eval.l0 k vals i a l) ?_ ?_
  · exact stp (fun k => spec_l01Eval.l0.eq_2 ..) (ifn (by omega) (sm _))
  · intro i c r hc hk
    have hi : i < l.length := (List.getElem?_eq_some_iff.1 hc).1
    have hm : c ∈ l := List.mem_of_getElem? hc
    have hcl' := hcl c hm
    have hcv := List.all_eq_true.1 hall c hm
    have hrd : rd_L1 l (i : Int) = c := getD_some hc
    have key : ∀ (d k : Nat) (ok : Bool), k + d = c.length → Ev (fun q => spec_l01Eval.l1 q vals (i : Int) ok (k : Int) a l) ((ok || (c.drop k).any fun x => litT vals x) && r) := by
      intro d
      induction d with
      | zero =>
        intro k ok hd
        refine stp (fun q => spec_l01Eval.l1.eq_2 ..) (ifp (by omega) (ifp (by omega) (ifn (by rw [hrd]; omega) ?_)))
        rw [List.drop_of_length_le (by omega), List.any_nil, Bool.or_false, up (by omega) (by omega : (i : Int) < (l.length : Int)) (by omega)]
        cases ok with
        | true => exact ifp rfl (by simpa using hk)
        | false => exact ifn (by simp) (sm _)
      | succ d ih =>
        intro k ok hd
        have hkl : k < c.length := by omega
        have hih := fun ok => ih (k + 1) ok (by omega)
        rw [show ((k + 1 : Nat) : Int) = (k : Int) + 1 by omega] at hih
        refine stp (fun q => spec_l01Eval.l1.eq_2 ..) (ifp (by omega) (ifp (by omega) (ifp (by rw [hrd]; omega) ?_)))
        rw [hrd, up (by omega) (by omega : (k : Int) < (c.length : Int)) (by omega), List.drop_eq_getElem_cons hkl, List.any_cons]
        cases ok with
        | true => exact ifp rfl (by simpa using hih true)
        | false =>
          refine ifn (by simp) (ifp (by omega) ?_)
          rw [show rd c (k : Int) = c[k] from getD_some (List.getElem?_eq_getElem hkl)]
          refine bnd0 (true_is vals _ (List.all_eq_true.1 hcv _ (List.getElem_mem hkl)) hl) ?_
          simpa using hih (litT vals c[k])
    refine stp (fun q => spec_l01Eval.l0.eq_2 ..) (ifp (by omega) ?_)
    have := key c.length 0 false (by omega)
    simpa using this
/-- a right formula's literals are those of so many values -/
theorem fit_of (a : Int) (l : List (List Int)) (vals : List Bool) (h : cnfB a l = true) (hv : (vals.length : Int) = a) : fitB l vals = true := by
  simp only [cnfB, Bool.and_eq_true, decide_eq_true_eq] at h
  obtain ⟨h0, h1, h2, h3⟩ := h
  rw [not_any_not l (fun c => clauseB c a)] at h3
  unfold fitB
  rw [decide_eq_true (by omega), Bool.true_and]
  refine List.all_eq_true.2 (fun c hc => ?_)
  have h4 := List.all_eq_true.1 h3 c hc
  simp only [clauseB, Bool.and_eq_true, decide_eq_true_eq] at h4
  have h5 := h4.2
  rw [not_any_not c (fun x => litB x a)] at h5
  refine List.all_eq_true.2 (fun x hx => ?_)
  have h6 := List.all_eq_true.1 h5 x hx
  simp only [litB, Bool.and_eq_true, decide_eq_true_eq] at h6
  obtain ⟨h7, h8, h9⟩ := h6
  rw [w64 (by omega) (by omega)] at h8
  simp only [litV, Bool.and_eq_true, decide_eq_true_eq]
  exact ⟨h7, by omega⟩
theorem cnf_bd {a : Int} {l : List (List Int)} (h : cnfB a l = true) : 0 ≤ a ∧ a ≤ 40 ∧ l.length ≤ 300 ∧ ∀ c ∈ l, c.length ≤ 12 := by
  simp only [cnfB, Bool.and_eq_true, decide_eq_true_eq] at h
  obtain ⟨h0, h1, h2, h3⟩ := h
  rw [not_any_not l (fun c => clauseB c a)] at h3
  refine ⟨h0, h1, h2, fun c hc => ?_⟩
  have h4 := List.all_eq_true.1 h3 c hc
  simp only [clauseB, Bool.and_eq_true, decide_eq_true_eq] at h4
  exact h4.1

def bit (n i : Int) : Bool := Go.bits .and .i64 (shr .i64 n i) 1 == 1
/-- the values that a number tells -/
def valsOf (n : Int) (a : Nat) : List Bool := (List.range a).map fun (j : Nat) => bit n (j : Int)
theorem vals_len (n : Int) (a : Nat) : (valsOf n a).length = a := by simp [valsOf]
/-- how many of d numbers from i on tell a model, behind c -/
def cnt (l : List (List Int)) (a : Nat) : Nat → Nat → Int → Int
  | 0, _, c => c
  | d + 1, i, c => cnt l a d (i + 1) (if modelB l (valsOf (i : Int) a) = true then wrap64 (c + 1) else c)
theorem pow_is (a : Nat) (h : a ≤ 12) : shl .i64 1 (a : Int) = ((2 ^ a : Nat) : Int) := by
  have : a = 0 ∨ a = 1 ∨ a = 2 ∨ a = 3 ∨ a = 4 ∨ a = 5 ∨ a = 6 ∨ a = 7 ∨ a = 8 ∨ a = 9 ∨ a = 10 ∨ a = 11 ∨ a = 12 := by omega
  rcases this with rfl | rfl | rfl | rfl | rfl | rfl | rfl | rfl | rfl | rfl | rfl | rfl | rfl <;> decide
theorem pow_le (a : Nat) (h : a ≤ 12) : 2 ^ a ≤ 4096 := Nat.pow_le_pow_right (n := 2) (by decide) h

theorem values_is (n : Int) (a : Nat) (h : a ≤ 12) : Ev (fun k => spec_l02Values.f k n (a : Int)) (valsOf n a) := by
  refine evc (fun k => spec_l02Values.f.eq_1 ..) ?_
  have key : ∀ d i : Nat, i + d = a → Ev (fun k => spec_l02Values.l0 k n (a : Int) (valsOf n i) (i : Int)) (valsOf n a) := by
    intro d
    induction d with
    | zero =>
      intro i hi
      obtain rfl : i = a := by omega
      exact stp (fun k => spec_l02Values.l0.eq_2 ..) (ifn (by omega) (sm _))
    | succ d ih =>
      intro i hi
      have hih := ih (i + 1) (by omega)
      refine stp (fun k => spec_l02Values.l0.eq_2 ..) (ifp (by omega) ?_)
      rw [u64_in (by omega) (by omega)]
      refine ifp (by omega) (ifp (by rw [vals_len]; omega) ?_)
      rw [w64 (by omega) (by omega)]
      have e : valsOf n i ++ [bit n (i : Int)] = valsOf n (i + 1) := by simp [valsOf, List.range_succ]
      rw [show ((i + 1 : Nat) : Int) = (i : Int) + 1 by omega, ← e] at hih
      exact hih
  have := key a 0 (by omega)
  simpa [valsOf] using this

theorem spec_loop (a : Nat) (l : List (List Int)) (h : a ≤ 12) (hc : cnfB (a : Int) l = true) (hl : RowsOK l) (d : Nat) : ∀ (i : Nat) (c : Int), i + d = 2 ^ a → Ev (fun k => spec_CountModels.l0 k c (i : Int) (a : Int) l) (cnt l a d i c, 0) := by
  have hp := pow_le a h
  induction d with
  | zero =>
    intro i c hi
    refine stp (fun k => spec_CountModels.l0.eq_2 ..) ?_
    rw [u64_in (by omega) (by omega), pow_is a h]
    exact ifp (by omega) (ifn (by omega) (sm _))
  | succ d ih =>
    intro i c hi
    have hih := fun c => ih (i + 1) c (by omega)
    rw [show ((i + 1 : Nat) : Int) = (i : Int) + 1 by omega] at hih
    refine stp (fun k => spec_CountModels.l0.eq_2 ..) ?_
    rw [u64_in (by omega) (by omega), pow_is a h]
    refine ifp (by omega) (ifp (by omega) (bnd (values_is _ a h) (bnd (eval_is _ l _ (fit_of _ l _ hc (by rw [vals_len])) (rows_len hl) (fun c hc => (hl.2 c hc).1)) ?_)))
    rw [w64 (x := (i : Int) + 1) (by omega) (by omega)]
    rw [cnt]
    by_cases hm : modelB l (valsOf (i : Int) a) = true
    · rw [if_pos hm]; exact ifp hm (hih _)
    · rw [if_neg hm]; exact ifn hm (hih _)

theorem impl_loop (a : Nat) (l : List (List Int)) (h : a ≤ 12) (hc : cnfB (a : Int) l = true) (d : Nat) : ∀ (i : Nat) (c : Int) (v : List Bool), i + d = 2 ^ a → v.length = a → Ev (fun k => impl_CountModels.l0 k c v (((2 ^ a : Nat) : Int)) (i : Int) (a : Int) l) (cnt l a d i c, 0) := by
  have hp := pow_le a h
  induction d with
  | zero =>
    intro i c v hi hv
    exact stp (fun k => impl_CountModels.l0.eq_2 ..) (ifn (by omega) (sm _))
  | succ d ih =>
    intro i c v hi hv
    have hih := fun c v hv => ih (i + 1) c v (by omega) hv
    rw [show ((i + 1 : Nat) : Int) = (i : Int) + 1 by omega] at hih
    refine stp (fun k => impl_CountModels.l0.eq_2 ..) (ifp (by omega) ?_)
    have hlen : ((List.range a).length : Int) = (v.length : Int) := by simp; omega
    have := copyK (fun j : Nat => bit (i : Int) (j : Int)) (List.range a) (fun j out k => impl_CountModels.l1 k c out (i : Int) (((2 ^ a : Nat) : Int)) (i : Int) (v.length : Int) j (a : Int) l) (cnt l a (d + 1) i c, 0) ?_ ?_ v (by simpa using hv)
    · exact this
    · show Ev (fun k => impl_CountModels.l1 k c (valsOf (i : Int) a) (i : Int) _ (i : Int) (v.length : Int) _ (a : Int) l) _
      refine stp (fun k => impl_CountModels.l1.eq_2 ..) (ifn (by omega) (bnd0 (by unfold impl_isModel.f; rw [if_pos (fit_of _ l _ hc (by rw [vals_len]))]) ?_))
      rw [w64 (x := (i : Int) + 1) (by omega) (by omega), cnt]
      by_cases hm : modelB l (valsOf (i : Int) a) = true
      · rw [if_pos hm]; exact ifp hm (hih _ _ (vals_len _ _))
      · rw [if_neg hm]; exact ifn hm (hih _ _ (vals_len _ _))
    · intro j out x hx hol hk
      have hj : j < a := by have := (List.getElem?_eq_some_iff.1 hx).1; simpa using this
      obtain rfl : j = x := by rw [List.getElem?_range hj] at hx; exact Option.some.inj hx
      have hol2 : out.length = a := by simpa using hol
      refine stp (fun k => impl_CountModels.l1.eq_2 ..) (ifp (by omega) (ifp (by omega) (ifp (by omega) ?_)))
      rw [w64 (x := (j : Int) + 1) (by omega) (by omega), Int.toNat_natCast]
      exact hk

/-- What both answer. -/
def ans (a : Int) (l : List (List Int)) : Int × Int := if cnfB a l = true then (if a > 12 then (0, 11) else (cnt l a.toNat (2 ^ a.toNat) 0 0, 0)) else (0, 1)
theorem spec_is (a : Int) (l : List (List Int)) (h : RowsOK l) : Ev (fun k => spec_CountModels.f k a l) (ans a l) := by
  refine evc (fun k => spec_CountModels.f.eq_1 ..) (bnd (specCnf_is a l h) ?_)
  unfold ans
  by_cases h1 : cnfB a l = true
  · rw [if_pos h1]
    refine ifp h1 ?_
    by_cases h2 : a > 12
    · rw [if_pos h2]; exact ifp h2 (sm _)
    · rw [if_neg h2]
      obtain ⟨n, rfl⟩ := Int.eq_ofNat_of_zero_le (cnf_bd h1).1
      refine ifn h2 ?_
      exact spec_loop n l (by omega) h1 h (2 ^ n) 0 0 (by omega)
  · rw [if_neg h1]; exact ifn h1 (sm _)
theorem impl_is (a : Int) (l : List (List Int)) : Ev (fun k => impl_CountModels.f k a l) (ans a l) := by
  refine evc (fun k => impl_CountModels.f.eq_1 ..) (bnd0 (show impl_isCnf.f a l = some (cnfB a l) from rfl) ?_)
  unfold ans
  by_cases h1 : cnfB a l = true
  · rw [if_pos h1]
    refine ifp h1 ?_
    by_cases h2 : a > 12
    · rw [if_pos h2]; exact ifp h2 (sm _)
    · rw [if_neg h2]
      obtain ⟨n, rfl⟩ := Int.eq_ofNat_of_zero_le (cnf_bd h1).1
      refine ifn h2 (ifp (by omega) (ifp (by omega) ?_))
      rw [pow_is n (by omega), Int.toNat_natCast]
      exact impl_loop n l (by omega) h1 (2 ^ n) 0 0 (List.replicate n false) (by omega) (by simp)
  · rw [if_neg h1]; exact ifn h1 (sm _)

theorem FnExactCountModels : laws_FnExactCountModels.Pure := by
  intro a l ha hl
  refine Ev.rounds ?_
  refine evc (fun k => laws_FnExactCountModels.f.eq_1 ..) ?_
  obtain ⟨v, hv, hsz⟩ := szCnf_is a l hl 1048576 (by omega) (by omega)
  refine bnd hsz ?_
  by_cases h : v < 0
  · exact ifp h (sm _)
  · have hto := toCnf_is a l hl
    refine ifn h (bnd hto (bnd (spec_is a l hl) (bnd hto (bnd (impl_is a l) (ifp rfl ?_)))))
    refine stp (fun k => laws_FnExactCountModels.j0.eq_2 ..) (ifn (by simp) ?_)
    exact bnd hto (bnd (eqCnf_self a l hl) (ifp rfl (sm _)))

end Go.Proofs.Ytdmeonkkbihbhaa.Pure
