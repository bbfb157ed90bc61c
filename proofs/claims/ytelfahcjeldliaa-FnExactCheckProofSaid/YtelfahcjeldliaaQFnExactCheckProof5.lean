/- FnExactCheckProof: for every input the law returns true. The texts that this program's session printed and proved for it, those that the proof uses, laid together. Conditions: the form's own reach alone. -/
import Derived.Test.YtelfahcjeldliaaQFnExactCheckProof4
import Derived.Test.YtelfahcjeldliaaRows
import Derived.WalkKit
import Derived.ProofKit
import Derived.OpenShut
import Derived.ShutString
import Derived.ChangeOld
import Derived.Below
import Derived.SizedLaws
section
set_option linter.unusedVariables false
set_option linter.unusedSimpArgs false
namespace Go.Proofs.Ytelfahcjeldliaa.Pure
open Go.RowKit Go.Proofs.Ytelfahcjeldliaa Go.Proofs.Ytelfahcjeldliaa.PFnExactCheckProof Go.Proofs.YtelfahcjeldliaaW.PrintWords Go.Proofs.YtelfahcjeldliaaW.PrintLast Go.Proofs.YtelfahcjeldliaaW.PrintMore Go.Proofs.Ytelfahcjeldliaa.Plain
theorem in_is (x lo hi : Int) : spec_l01In.f x lo hi = some (decide (lo ≤ x) && decide (x ≤ hi)) := by
 unfold spec_l01In.f
 by_cases h : x ≥ lo
 ·rw [if_pos h, decide_eq_true h, Bool.true_and]
 ·rw [if_neg h, decide_eq_false h, Bool.false_and]
def szI (left : Int) (c : List Int) : Int := if left - (c.length : Int) < 0 then -1 else left - (c.length : Int)
theorem szI_le (left : Int) (c : List Int) (h : 0 ≤ left) : szI left c ≤ left := by unfold szI; split <;> omega
theorem szI_is (c : List Int) (left : Int) (h0 : 0 ≤ left) (h1 : left ≤ 1048576) (hc : c.length ≤ 140737488351232) : laws_szIntS.f c left = some (szI left c) := by
 unfold laws_szIntS.f szI
 rw [w64 (by omega) (by omega)]
 by_cases h : left - (c.length : Int) < 0
 ·rw [if_pos h, if_pos h]
 ·rw [if_neg h, if_neg h]
theorem toI_is (l : List Int) (hl : l.length ≤ 35184372088832) : Ev (fun k => laws_toIntS.f k l) l := by
 refine evc (fun k => laws_toIntS.f.eq_1 ..) (ifp (by omega) (ifp (by omega) ?_))
 have := copy (fun x : Int => x) l (fun i out k => laws_toIntS.l0 k l out i) ?_ ?_ (List.replicate (l.length : Int).toNat 0) (by simp)
 ·simpa using this
 ·intro out
  exact stp (fun k => laws_toIntS.l0.eq_2 ..) (ifn (by omega) (sm _))
 ·intro i out r x hx hlen hk
  have hi : i < l.length := (List.getElem?_eq_some_iff.1 hx).1
  refine stp (fun k => laws_toIntS.l0.eq_2 ..) (ifp (by omega) (ifp (by omega) (ifp (by omega) ?_)))
  rw [show rd l (i : Int) = x from getD_some hx, up (by omega) (by omega : (i : Int) < (l.length : Int)) (by omega), Int.toNat_natCast]
  exact hk
theorem eqI_self (l : List Int) (hl : l.length ≤ 140737488351232) : Ev (fun k => laws_eqIntS.f k l l) true := by
 refine evc (fun k => laws_eqIntS.f.eq_1 ..) (ifp rfl ?_)
 refine same l (fun i k => laws_eqIntS.l0 k l l i) ?_ ?_
 ·exact stp (fun k => laws_eqIntS.l0.eq_2 ..) (ifn (by omega) (sm _))
 ·intro i x hx hk
  have hi : i < l.length := (List.getElem?_eq_some_iff.1 hx).1
  refine stp (fun k => laws_eqIntS.l0.eq_2 ..) (ifp (by omega) (ifp (by omega) (ifp (by omega) (ifp rfl ?_))))
  rw [up (by omega) (by omega : (i : Int) < (l.length : Int)) (by omega)]
  exact hk
abbrev RowsOK (l : List (List Int)) : Prop := Reads.WFL 24 (Reads.WFL 8 Reads.WFI) l
theorem rows_len {l : List (List Int)} (h : RowsOK l) : l.length * 24 ≤ 140737488351232 := h.1
theorem row_len {l : List (List Int)} (h : RowsOK l) {i : Nat} {c : List Int} (hc : l[i]? = some c) : c.length * 8 ≤ 140737488351232 := (h.2 c (List.mem_of_getElem? hc)).1
theorem szSS_is (l : List (List Int)) (h : RowsOK l) (left : Int) (h0 : 0 ≤ left) (h1 : left ≤ 1048576) : ∃ v : Int, v ≤ 1048576 ∧ Ev (fun k => laws_szIntSS.f k l left) v := by
 have hl := rows_len h
 by_cases hs : left - (l.length : Int) < 0
 ·exact ⟨-1, by omega, evc (fun k => laws_szIntSS.f.eq_1 ..) (ifp (by rw [w64 (by omega) (by omega)]; exact hs) (sm _))⟩
 ·have key : ∀ (d i : Nat) (lf : Int), i + d = l.length → 0 ≤ lf → lf ≤ 1048576 → ∃ v : Int, v ≤ 1048576 ∧ Ev (fun k => laws_szIntSS.l0 k l lf (i : Int)) v := by
   intro d
   induction d with
   | zero =>
    intro i lf hi hf0 hf1
    exact ⟨lf, hf1, stp (fun k => laws_szIntSS.l0.eq_2 ..) (ifn (by omega) (sm _))⟩
   | succ d ih =>
    intro i lf hi hf0 hf1
    have hil : i < l.length := by omega
    have hx : l[i]? = some l[i] := List.getElem?_eq_getElem hil
    have hlen := row_len h hx
    have hsz := szI_is l[i] lf hf0 hf1 (by omega)
    by_cases hn : szI lf l[i] < 0
    ·refine ⟨-1, by omega, stp (fun k => laws_szIntSS.l0.eq_2 ..) (ifp (by omega) (ifp (by omega) ?_))⟩
     rw [show rd_L1 l (i : Int) = l[i] from getD_some hx]
     exact bnd0 hsz (ifp hn (sm _))
    ·obtain ⟨v, hv, hev⟩ := ih (i + 1) (szI lf l[i]) (by omega) (by omega) (by have := szI_le lf l[i] hf0; omega)
     rw [show ((i + 1 : Nat) : Int) = (i : Int) + 1 by omega] at hev
     refine ⟨v, hv, stp (fun k => laws_szIntSS.l0.eq_2 ..) (ifp (by omega) (ifp (by omega) ?_))⟩
     rw [show rd_L1 l (i : Int) = l[i] from getD_some hx, up (by omega) (by omega : (i : Int) < (l.length : Int)) (by omega)]
     exact bnd0 hsz (ifn hn hev)
  obtain ⟨v, hv, hev⟩ := key l.length 0 (left - (l.length : Int)) (by omega) (by omega) (by omega)
  refine ⟨v, hv, evc (fun k => laws_szIntSS.f.eq_1 ..) (ifn (by rw [w64 (by omega) (by omega)]; exact hs) ?_)⟩
  rw [w64 (by omega) (by omega)]
  exact hev
theorem szCnf_is (a : Int) (l : List (List Int)) (h : RowsOK l) (left : Int) (h0 : 0 ≤ left) (h1 : left ≤ 1048576) : ∃ v : Int, v ≤ 1048576 ∧ Ev (fun k => laws_szCnf.f k a l left) v := by
 obtain ⟨v, hv, hev⟩ := szSS_is l h left h0 h1
 by_cases hn : v < 0
 ·exact ⟨-1, by omega, bnd hev (ifp hn (sm _))⟩
 ·exact ⟨v, hv, bnd hev (ifn hn (sm _))⟩
theorem toSS_is (l : List (List Int)) (h : RowsOK l) : Ev (fun k => laws_toIntSS.f k l) l := by
 have hl := rows_len h
 refine evc (fun k => laws_toIntSS.f.eq_1 ..) (ifp (by omega) (ifp (by omega) ?_))
 have := copy (fun x : List Int => x) l (fun i out k => laws_toIntSS.l0 k l out i) ?_ ?_ (List.replicate (l.length : Int).toNat []) (by simp)
 ·simpa using this
 ·intro out
  exact stp (fun k => laws_toIntSS.l0.eq_2 ..) (ifn (by omega) (sm _))
 ·intro i out r x hx hlen hk
  have hi : i < l.length := (List.getElem?_eq_some_iff.1 hx).1
  have hxl := row_len h hx
  refine stp (fun k => laws_toIntSS.l0.eq_2 ..) (ifp (by omega) (ifp (by omega) ?_))
  rw [show rd_L1 l (i : Int) = x from getD_some hx, up (by omega) (by omega : (i : Int) < (l.length : Int)) (by omega), Int.toNat_natCast]
  exact bnd (toI_is x (by omega)) (ifp (by omega) hk)
theorem toCnf_is (a : Int) (l : List (List Int)) (h : RowsOK l) : Ev (fun k => laws_toCnf.f k a l) (a, l) := bnd (toSS_is l h) (sm _)
theorem eqSS_self (l : List (List Int)) (h : RowsOK l) : Ev (fun k => laws_eqIntSS.f k l l) true := by
 have hl := rows_len h
 refine evc (fun k => laws_eqIntSS.f.eq_1 ..) (ifp rfl ?_)
 refine same l (fun i k => laws_eqIntSS.l0 k l l i) ?_ ?_
 ·exact stp (fun k => laws_eqIntSS.l0.eq_2 ..) (ifn (by omega) (sm _))
 ·intro i x hx hk
  have hi : i < l.length := (List.getElem?_eq_some_iff.1 hx).1
  have hxl := row_len h hx
  refine stp (fun k => laws_eqIntSS.l0.eq_2 ..) (ifp (by omega) (ifp (by omega) (ifp (by omega) ?_)))
  rw [show rd_L1 l (i : Int) = x from getD_some hx, up (by omega) (by omega : (i : Int) < (l.length : Int)) (by omega)]
  exact bnd (eqI_self x (by omega)) (ifp rfl hk)
theorem eqCnf_self (a : Int) (l : List (List Int)) (h : RowsOK l) : Ev (fun k => laws_eqCnf.f k a l a l) true :=
 evc (fun k => laws_eqCnf.f.eq_1 ..) (ifp rfl (bnd (eqSS_self l h) (ifp rfl (sm _))))
theorem specClause_is (c : List Int) (vars : Int) (hc : c.length * 8 ≤ 140737488351232) : Ev (fun k => spec_l01Clause.f k c vars) (clauseB c vars) := by
 unfold clauseB
 rw [not_any_not c (fun x => litB x vars)]
 refine evc (fun k => spec_l01Clause.f.eq_1 ..) ?_
 by_cases h : c.length ≤ 12
 ·rw [decide_eq_true h, Bool.true_and]
  refine ifn (by omega) ?_
  refine allL c (fun x => litB x vars) (fun i k => spec_l01Clause.l0 k c vars i) ?_ ?_
  ·exact stp (fun k => spec_l01Clause.l0.eq_2 ..) (ifn (by omega) (sm _))
  ·intro i x r hx hk
   have hi : i < c.length := (List.getElem?_eq_some_iff.1 hx).1
   refine stp (fun k => spec_l01Clause.l0.eq_2 ..) (ifp (by omega) (ifp (by omega) ?_))
   rw [show rd c (i : Int) = x from getD_some hx, up (by omega) (by omega : (i : Int) < (c.length : Int)) (by omega)]
   unfold litB
   by_cases hz : x = 0
   ·refine ifp hz ?_
    rw [decide_eq_false (by simpa using hz)]
    exact sm _
   ·refine ifn hz (bnd0 (in_is _ _ _) ?_)
    rw [decide_eq_true hz, Bool.true_and]
    cases hb : decide (wrap64 (-vars) ≤ x) && decide (x ≤ vars) with
    | true => exact ifp rfl (by simpa using hk)
    | false => exact ifn (by simp) (sm _)
 ·rw [decide_eq_false h, Bool.false_and]
  exact ifp (by omega) (sm _)
theorem specCnf_is (a : Int) (l : List (List Int)) (h : RowsOK l) : Ev (fun k => spec_CnfOK.f k a l) (cnfB a l) := by
 have hl := rows_len h
 unfold cnfB
 rw [not_any_not l (fun c => clauseB c a), ← Bool.and_assoc]
 refine bnd0 (in_is _ _ _) ?_
 cases h1 : decide (0 ≤ a) && decide (a ≤ 40) with
 | false =>
  rw [Bool.false_and]
  exact ifn (by simp) (stp (fun k => spec_CnfOK.j0.eq_2 ..) (ifp rfl (sm _)))
 | true =>
  rw [Bool.true_and]
  refine ifp rfl (stp (fun k => spec_CnfOK.j0.eq_2 ..) ?_)
  by_cases h2 : l.length ≤ 300
  ·rw [decide_eq_true h2, Bool.true_and]
   refine ifn (by simp; omega) ?_
   refine allL l (fun c => clauseB c a) (fun i k => spec_CnfOK.l0 k i a l) ?_ ?_
   ·exact stp (fun k => spec_CnfOK.l0.eq_2 ..) (ifn (by omega) (sm _))
   ·intro i x r hx hk
    have hi : i < l.length := (List.getElem?_eq_some_iff.1 hx).1
    have hxl := row_len h hx
    refine stp (fun k => spec_CnfOK.l0.eq_2 ..) (ifp (by omega) (ifp (by omega) ?_))
    rw [show rd_L1 l (i : Int) = x from getD_some hx, up (by omega) (by omega : (i : Int) < (l.length : Int)) (by omega)]
    refine bnd (specClause_is x a hxl) ?_
    cases hb : clauseB x a with
    | true => exact ifp rfl (by simpa using hk)
    | false => exact ifn (by simp) (sm _)
  ·rw [decide_eq_false h2, Bool.false_and]
   exact ifp (by simp; omega) (sm _)
abbrev ValsOK (vals : List Int) : Prop := ∀ v ∈ vals, v = -1 ∨ v = 0 ∨ v = 1
abbrev LitsOK (n : Nat) (c : List Int) : Prop := ∀ x ∈ c, x ≠ 0 ∧ x.natAbs < n
theorem lits_fit {n : Nat} {c : List Int} (h : LitsOK n c) : fitL n c = true := List.all_eq_true.2 fun x hx => decide_eq_true (h x hx).2
theorem vals_set {vals : List Int} (h : ValsOK vals) (x : Int) : ValsOK (setL vals x) := by
 intro v hv
 unfold setL at hv
 split at hv
 ·rcases List.mem_or_eq_of_mem_set hv with h2 | h2
  ·exact h v h2
  ·exact .inl h2
 ·rcases List.mem_or_eq_of_mem_set hv with h2 | h2
  ·exact h v h2
  ·exact .inr (.inr h2)
theorem vals_zero (n : Nat) : ValsOK (List.replicate n 0) := fun v hv => .inr (.inl (List.eq_of_mem_replicate hv))
def valL (vals : List Int) (x : Int) : Int := if x < 0 then -(rd vals (x.natAbs : Int)) else rd vals (x.natAbs : Int)
theorem rd_ok {vals : List Int} (h : ValsOK vals) (i : Int) (h0 : 0 ≤ i) (h1 : i < vals.length) : rd vals i = -1 ∨ rd vals i = 0 ∨ rd vals i = 1 := by
 have hi : i.toNat < vals.length := by omega
 have : rd vals i = vals[i.toNat] := by unfold rd; simp [List.getD, hi]
 rw [this]
 exact h _ (List.getElem_mem hi)
theorem isL_val (vals : List Int) (x : Int) : isL vals x = decide (valL vals x = 1) := by
 unfold isL valL
 by_cases h : x < 0
 ·rw [if_pos h, if_pos h, show (x.natAbs : Int) = -x by omega, Bool.eq_iff_iff, beq_iff_eq, decide_eq_true_eq]
  omega
 ·rw [if_neg h, if_neg h, show (x.natAbs : Int) = x by omega, Bool.eq_iff_iff, beq_iff_eq, decide_eq_true_eq]
theorem isL_neg {vals : List Int} {x : Int} (h0 : x ≠ 0) : isL vals (-x) = decide (valL vals x = -1) := by
 rw [isL_val]
 unfold valL
 rw [show (-x).natAbs = x.natAbs by omega, Bool.eq_iff_iff, decide_eq_true_eq, decide_eq_true_eq]
 by_cases h : x < 0
 ·rw [if_neg (by omega), if_pos h]
  omega
 ·rw [if_pos (by omega), if_neg h]
  omega
theorem valL_ok {vals : List Int} (h : ValsOK vals) {x : Int} (hx : x.natAbs < vals.length) : valL vals x = -1 ∨ valL vals x = 0 ∨ valL vals x = 1 := by
 have := rd_ok h (x.natAbs : Int) (by omega) (by omega)
 unfold valL
 split <;> omega
def clS (vals : List Int) : List Int → Int → Int → Bool × Int × Int
 | [], n, one => (false, n, one)
 | x :: r, n, one => if valL vals x = 1 then (true, 0, 0) else if valL vals x = 0 then (if one = x then clS vals r n one else clS vals r (n + 1) x) else clS vals r n one
def cvS (q : Bool × Int × Int) : Int × Bool := if q.1 = true then (0, false) else if q.2.1 = 0 then (0, true) else if q.2.1 = 1 then (q.2.2, false) else (0, false)
theorem clS_two (vals : List Int) : ∀ (c : List Int) (n one : Int), 2 ≤ n → cvS (clS vals c n one) = (0, false)
 | [], n, one, h => by
  unfold clS cvS
  rw [if_neg (by simp), if_neg (by simp; omega), if_neg (by simp; omega)]
 | x :: r, n, one, h => by
  unfold clS
  split
  ·rfl
  ·split
   ·split
    ·exact clS_two vals r n one h
    ·exact clS_two vals r (n + 1) x (by omega)
   ·exact clS_two vals r n one h
theorem unit_clS {vals : List Int} (hv : ValsOK vals) : ∀ (c : List Int) (one : Int), LitsOK vals.length c → unitL vals c one = cvS (clS vals c (if one = 0 then 0 else 1) one)
 | [], one, _ => by
  unfold unitL clS cvS
  by_cases h : one = 0
  ·subst h; rfl
  ·rw [if_neg h, if_neg (by simp), if_neg (by simp), if_pos rfl, beq_eq_false_iff_ne.2 h]
 | x :: r, one, hl => by
  have hx := hl x (by simp)
  have hr : LitsOK vals.length r := fun y hy => hl y (by simp [hy])
  have ih := unit_clS hv r
  unfold unitL clS
  rw [isL_val, isL_neg hx.1]
  rcases valL_ok hv hx.2 with h | h | h
  ·rw [h, if_neg (by decide), if_pos (by decide), if_neg (by decide), if_neg (by decide)]
   exact ih one hr
  ·rw [h, if_neg (show ¬ (decide ((0 : Int) = 1) = true) by decide), if_neg (show ¬ (decide ((0 : Int) = -1) = true) by decide), if_neg (show ¬ (0 : Int) = 1 by decide), if_pos (show (0 : Int) = 0 from rfl)]
   by_cases hxo : x = one
   ·rw [if_pos hxo, if_pos hxo.symm]
    exact ih one hr
   ·have hox : ¬ one = x := fun e => hxo e.symm
    rw [if_neg hxo, if_neg hox]
    by_cases h0 : one = 0
    ·rw [if_pos h0, if_pos h0]
     have := ih x hr
     rwa [if_neg hx.1] at this
    ·rw [if_neg h0, if_neg h0]
     exact (clS_two vals r (1 + 1) x (by omega)).symm
  ·rw [h, if_pos (by decide), if_pos rfl]
   rfl
theorem abs_is {x : Int} (h : x.natAbs < 4097) : spec_l01Abs.f x = some (x.natAbs : Int) := by
 unfold spec_l01Abs.f mx
 rw [w64 (by omega) (by omega)]
 split
 ·congr 1; omega
 ·congr 1; omega
theorem setS_is {vals : List Int} {x : Int} (h0 : x ≠ 0) (h : x.natAbs < vals.length) (hn : vals.length ≤ 4096) : spec_l02Set.f vals x = some (setL vals x) := by
 unfold spec_l02Set.f setL
 rw [w64 (by omega) (by omega)]
 by_cases hx : x > 0
 ·rw [if_pos hx, if_pos (by omega), if_pos (by omega), if_neg (by omega)]
 ·rw [if_neg hx, if_pos (by omega), if_pos (by omega), if_pos (by omega)]
theorem clause_is (c vals : List Int) (hv : ValsOK vals) (hl : LitsOK vals.length c) (hn : vals.length ≤ 4096) (hc : c.length * 8 ≤ 140737488351232) : Ev (fun k => spec_l02Clause.f k c vals) (clS vals c 0 0) := by
 refine evc (fun k => spec_l02Clause.f.eq_1 ..) ?_
 have key : ∀ (d i : Nat) (n one : Int), i + d = c.length → 0 ≤ n → n ≤ i → Ev (fun k => spec_l02Clause.l0 k c vals n one (i : Int)) (clS vals (c.drop i) n one) := by
  intro d
  induction d with
  | zero =>
   intro i n one hi h0 h1
   obtain rfl : i = c.length := by omega
   rw [List.drop_length, clS]
   exact stp (fun k => spec_l02Clause.l0.eq_2 ..) (ifn (by omega) (sm _))
  | succ d ih =>
   intro i n one hi h0 h1
   have hil : i < c.length := by omega
   have hx := hl c[i] (List.getElem_mem hil)
   have hr : rd c (i : Int) = c[i] := getD_some (List.getElem?_eq_getElem hil)
   have hup : wrap64 ((i : Int) + 1) = ((i + 1 : Nat) : Int) := by rw [up (by omega) (by omega : (i : Int) < (c.length : Int)) (by omega)]; omega
   have hn1 : wrap64 (n + 1) = n + 1 := w64 (by omega) (by omega)
   rw [List.drop_eq_getElem_cons hil, clS]
   have hvo := rd_ok hv (c[i].natAbs : Int) (by omega) (by omega)
   refine stp (fun k => spec_l02Clause.l0.eq_2 ..) (ifp (by omega) (ifp (by omega) ?_))
   rw [hr]
   refine bnd0 (abs_is (by omega)) (ifp (by omega) (ifp (by omega) ?_))
   have fin : Ev (fun k => spec_l02Clause.j1 k c vals n one (i : Int) (valL vals c[i])) (if valL vals c[i] = 1 then (true, 0, 0) else if valL vals c[i] = 0 then (if one = c[i] then clS vals (c.drop (i + 1)) n one else clS vals (c.drop (i + 1)) (n + 1) c[i]) else clS vals (c.drop (i + 1)) n one) := by
    refine stp (fun k => spec_l02Clause.j1.eq_2 ..) ?_
    rw [hup, hn1, hr]
    by_cases e1 : valL vals c[i] = 1
    ·rw [if_pos e1]
     exact ifp e1 (sm _)
    ·rw [if_neg e1]
     refine ifn e1 ?_
     by_cases e2 : valL vals c[i] = 0
     ·rw [if_pos e2]
      refine ifp e2 (ifp (by omega) (ifp (by omega) ?_))
      by_cases e3 : one = c[i]
      ·rw [if_pos e3]
       exact ifp e3 (ih (i + 1) n one (by omega) h0 (by omega))
      ·rw [if_neg e3]
       exact ifn e3 (ih (i + 1) (n + 1) c[i] (by omega) (by omega) (by omega))
     ·rw [if_neg e2]
      exact ifn e2 (ih (i + 1) n one (by omega) h0 (by omega))
   by_cases hneg : c[i] < 0
   ·refine ifp hneg ?_
    rw [w64 (by omega) (by omega)]
    have e : valL vals c[i] = -(rd vals (c[i].natAbs : Int)) := by unfold valL; rw [if_pos hneg]
    rw [← e]
    exact fin
   ·refine ifn hneg ?_
    have e : valL vals c[i] = rd vals (c[i].natAbs : Int) := by unfold valL; rw [if_neg hneg]
    rw [← e]
    exact fin
 have := key c.length 0 0 0 (by omega) (by omega) (by omega)
 rwa [List.drop_zero] at this
theorem unit_open {vals : List Int} (hv : ValsOK vals) : ∀ (c : List Int) (one : Int), LitsOK vals.length c → (one ≠ 0 → one.natAbs < vals.length ∧ valL vals one = 0) → (unitL vals c one).1 ≠ 0 → (unitL vals c one).1.natAbs < vals.length ∧ valL vals (unitL vals c one).1 = 0
 | [], one, _, h1, h => by
  rw [unitL] at h ⊢
  exact h1 h
 | x :: r, one, hl, h1, h => by
  have hx := hl x (by simp)
  have hr : LitsOK vals.length r := fun y hy => hl y (by simp [hy])
  rw [unitL] at h ⊢
  rw [isL_val, isL_neg hx.1] at h ⊢
  rcases valL_ok hv hx.2 with e | e | e
  ·rw [e, if_neg (by decide), if_pos (by decide)] at h ⊢
   exact unit_open hv r one hr h1 h
  ·rw [e, if_neg (by decide), if_neg (by decide)] at h ⊢
   by_cases hxo : x = one
   ·rw [if_pos hxo] at h ⊢
    exact unit_open hv r one hr h1 h
   ·rw [if_neg hxo] at h ⊢
    by_cases h0 : one = 0
    ·rw [if_pos h0] at h ⊢
     exact unit_open hv r x hr (fun _ => ⟨hx.2, e⟩) h
    ·rw [if_neg h0] at h
     exact absurd rfl h
  ·rw [e, if_pos (by decide)] at h
   exact absurd rfl h
theorem scan_open {vals : List Int} (hv : ValsOK vals) : ∀ (cs : List (List Int)) (i : Nat) (next : Int), (∀ c ∈ cs, LitsOK vals.length c) → (next ≠ 0 → next.natAbs < vals.length ∧ valL vals next = 0) → (scanL vals cs i next).2 ≠ 0 → (scanL vals cs i next).2.natAbs < vals.length ∧ valL vals (scanL vals cs i next).2 = 0
 | [], i, next, _, h1, h => by
  rw [scanL] at h ⊢
  exact h1 h
 | c :: r, i, next, hl, h1, h => by
  rw [scanL] at h ⊢
  by_cases hf : (unitL vals c 0).2 = true
  ·rw [if_pos hf] at h ⊢
   exact h1 h
  ·rw [if_neg hf] at h ⊢
   refine scan_open hv r (i + 1) _ (fun c hc => hl c (by simp [hc])) (fun hne => ?_) h
   by_cases h0 : next = 0
   ·rw [if_pos h0] at hne ⊢
    exact unit_open hv c 0 (hl c (by simp)) (fun e => absurd rfl e) hne
   ·rw [if_neg h0]
    exact h1 h0
theorem count_set {vals : List Int} {x : Int} (h0 : x ≠ 0) (hx : x.natAbs < vals.length) (hz : valL vals x = 0) : (setL vals x).count 0 + 1 = vals.count 0 := by
 have hr : vals[x.natAbs] = 0 := by
  have : rd vals (x.natAbs : Int) = vals[x.natAbs] := getD_some (List.getElem?_eq_getElem hx)
  unfold valL at hz
  rw [← this]
  split at hz <;> omega
 have hpos : 0 < vals.count 0 := List.count_pos_iff.2 (hr ▸ List.getElem_mem hx)
 unfold setL
 by_cases h : x < 0
 ·rw [if_pos h, show (-x).toNat = x.natAbs by omega, List.count_set hx]
  simp [hr]
  omega
 ·rw [if_neg h, show x.toNat = x.natAbs by omega, List.count_set hx]
  simp [hr]
  omega
theorem round_is (cs : List (List Int)) (vals list : List Int) (hv : ValsOK vals) (hn : vals.length ≤ 4096) (hc : ∀ c ∈ cs, LitsOK vals.length c ∧ c.length * 8 ≤ 140737488351232) (hlen : cs.length * 24 ≤ 140737488351232) (r : List Int × Int × List Int)
  (hcon : ∀ next, scanL vals cs 0 0 = (none, next) → Ev (fun k => if next = 0 then some (list, (-1 : Int), vals) else (spec_l02Set.f vals next).bind fun t => if list.length < 17592186044416 then spec_l02Run.l0 k cs t (list ++ [next]) else none) r)
  (hhit : ∀ i next, scanL vals cs 0 0 = (some i, next) → r = (list, (i : Int), vals)) : Ev (fun k => spec_l02Run.l0 k cs vals list) r := by
 refine stp (fun k => spec_l02Run.l0.eq_2 ..) ?_
 have key : ∀ (d i : Nat) (next : Int), i + d = cs.length → scanL vals (cs.drop i) i next = scanL vals cs 0 0 → Ev (fun k => spec_l02Run.l1 k cs vals list next (i : Int)) r := by
  intro d
  induction d with
  | zero =>
   intro i next hi hs
   obtain rfl : i = cs.length := by omega
   rw [List.drop_length, scanL] at hs
   refine stp (fun k => spec_l02Run.l1.eq_2 ..) (ifn (by omega) ?_)
   exact hcon next hs.symm
  | succ d ih =>
   intro i next hi hs
   have hil : i < cs.length := by omega
   have hx := hc cs[i] (List.getElem_mem hil)
   have hr : rd_L1 cs (i : Int) = cs[i] := getD_some (List.getElem?_eq_getElem hil)
   have hup : wrap64 ((i : Int) + 1) = ((i + 1 : Nat) : Int) := by rw [up (by omega) (by omega : (i : Int) < (cs.length : Int)) (by omega)]; omega
   rw [List.drop_eq_getElem_cons hil, scanL] at hs
   have hu := unit_clS hv cs[i] 0 hx.1
   rw [if_pos rfl] at hu
   rw [hu] at hs
   refine stp (fun k => spec_l02Run.l1.eq_2 ..) (ifp (by omega) (ifp (by omega) ?_))
   rw [hr, hup]
   refine bnd (clause_is cs[i] vals hv hx.1 hn hx.2) ?_
   generalize clS vals cs[i] 0 0 = q at hs ⊢
   obtain ⟨q0, q1, q2⟩ := q
   unfold cvS at hs
   simp only at hs ⊢
   cases q0 with
   | true =>
    refine ifp rfl (ih (i + 1) next (by omega) ?_)
    rw [if_pos rfl] at hs
    simp only [Bool.false_eq_true, if_false] at hs
    by_cases h0 : next = 0
    ·rw [if_pos h0] at hs
     rw [h0]
     exact hs
    ·rw [if_neg h0] at hs
     exact hs
   | false =>
    rw [if_neg (show ¬ (false = true) by decide)] at hs
    refine ifn (by simp) ?_
    by_cases h1 : q1 = 0
    ·rw [if_pos h1, if_pos rfl] at hs
     rw [hhit i next hs.symm]
     exact ifp h1 (sm _)
    ·rw [if_neg h1] at hs
     refine ifn h1 ?_
     by_cases h2 : q1 = 1
     ·rw [if_pos h2] at hs
      simp only [Bool.false_eq_true, if_false] at hs
      refine ifp h2 ?_
      by_cases h0 : next = 0
      ·rw [if_pos h0] at hs
       exact ifp h0 (ih (i + 1) q2 (by omega) hs)
      ·rw [if_neg h0] at hs
       exact ifn h0 (ih (i + 1) next (by omega) hs)
     ·rw [if_neg h2] at hs
      simp only [Bool.false_eq_true, if_false] at hs
      refine ifn h2 (ih (i + 1) next (by omega) ?_)
      by_cases h0 : next = 0
      ·rw [if_pos h0] at hs
       rw [h0]
       exact hs
      ·rw [if_neg h0] at hs
       exact hs
 exact key cs.length 0 0 (by omega) (by rw [List.drop_zero])
theorem scan_none_ {vals : List Int} : ∀ (cs : List (List Int)) (i : Nat) (next : Int), (scanL vals cs i next).1 = none → ∀ c ∈ cs, (unitL vals c 0).2 = false
 | [], _, _, _, c, hc => by cases hc
 | a :: r, i, next, h, c, hc => by
  rw [scanL] at h
  by_cases hf : (unitL vals a 0).2 = true
  ·rw [if_pos hf] at h
   cases h
  ·rw [if_neg hf] at h
   rcases List.mem_cons.1 hc with rfl | hc
   ·exact Bool.eq_false_iff.2 hf
   ·exact scan_none_ r _ _ h c hc
theorem scan_none {vals : List Int} {cs : List (List Int)} {next : Int} (h : scanL vals cs 0 0 = (none, next)) : ∀ c ∈ cs, (unitL vals c 0).2 = false := scan_none_ cs 0 0 (by rw [h])
theorem run_is (cs : List (List Int)) (hlen : cs.length * 24 ≤ 140737488351232) : ∀ (n : Nat) (vals list : List Int), vals.count 0 ≤ n → ValsOK vals → vals.length ≤ 4096 → (∀ c ∈ cs, LitsOK vals.length c ∧ c.length * 8 ≤ 140737488351232) → list.length + n ≤ 1000000 →
  ∃ r : List Int × List Int × Int, Ev (fun k => propL cs k vals list) r ∧ Ev (fun k => spec_l02Run.l0 k cs vals list) (r.2.1, r.2.2, r.1) ∧ r.1.length = vals.length ∧ ValsOK r.1 ∧ (r.2.2 < 0 → ∀ c ∈ cs, (unitL r.1 c 0).2 = false) := by
 intro n
 induction n with
 | zero =>
  intro vals list hz hv hn hc hl
  obtain ⟨q, hq⟩ : ∃ q, scanL vals cs 0 0 = q := ⟨_, rfl⟩
  have ho := scan_open hv cs 0 0 (fun c hc' => (hc c hc').1) (fun e => absurd rfl e)
  rw [hq] at ho
  obtain ⟨o, next⟩ := q
  cases o with
  | some i =>
   refine ⟨(vals, list, (i : Int)), stp (fun k => propL.eq_2 ..) ?_, round_is cs vals list hv hn hc hlen _ (fun nx e => ?_) (fun j nx e => ?_), rfl, hv, fun h => by simp only at h; omega⟩
   ·rw [hq]
    exact sm _
   ·rw [hq] at e
    cases e
   ·rw [hq] at e
    cases e
    rfl
  | none =>
   have h0 : next = 0 := by
    by_cases h0 : next = 0
    ·exact h0
    ·have h1 := ho h0
     have h2 := count_set h0 h1.1 h1.2
     omega
   subst h0
   refine ⟨(vals, list, -1), stp (fun k => propL.eq_2 ..) ?_, round_is cs vals list hv hn hc hlen _ (fun nx e => ?_) (fun j nx e => ?_), rfl, hv, fun _ => scan_none hq⟩
   ·rw [hq]
    exact ifp rfl (sm _)
   ·rw [hq] at e
    cases e
    exact ifp rfl (sm _)
   ·rw [hq] at e
    cases e
 | succ n ih =>
  intro vals list hz hv hn hc hl
  obtain ⟨q, hq⟩ : ∃ q, scanL vals cs 0 0 = q := ⟨_, rfl⟩
  have ho := scan_open hv cs 0 0 (fun c hc' => (hc c hc').1) (fun e => absurd rfl e)
  rw [hq] at ho
  obtain ⟨o, next⟩ := q
  cases o with
  | some i =>
   refine ⟨(vals, list, (i : Int)), stp (fun k => propL.eq_2 ..) ?_, round_is cs vals list hv hn hc hlen _ (fun nx e => ?_) (fun j nx e => ?_), rfl, hv, fun h => by simp only at h; omega⟩
   ·rw [hq]
    exact sm _
   ·rw [hq] at e
    cases e
   ·rw [hq] at e
    cases e
    rfl
  | none =>
   by_cases h0 : next = 0
   ·subst h0
    refine ⟨(vals, list, -1), stp (fun k => propL.eq_2 ..) ?_, round_is cs vals list hv hn hc hlen _ (fun nx e => ?_) (fun j nx e => ?_), rfl, hv, fun _ => scan_none hq⟩
    ·rw [hq]
     exact ifp rfl (sm _)
    ·rw [hq] at e
     cases e
     exact ifp rfl (sm _)
    ·rw [hq] at e
     cases e
   ·have h1 := ho h0
    simp only at h1
    have h2 := count_set h0 h1.1 h1.2
    obtain ⟨r, hr1, hr2, hr3, hr4, hr5⟩ := ih (setL vals next) (list ++ [next]) (by omega) (vals_set hv next) (by rw [setL_length]; exact hn) (by rw [setL_length]; exact hc) (by simp; omega)
    refine ⟨r, stp (fun k => propL.eq_2 ..) ?_, round_is cs vals list hv hn hc hlen _ (fun nx e => ?_) (fun j nx e => ?_), by rw [hr3, setL_length], hr4, hr5⟩
    ·rw [hq]
     exact ifn h0 (ifp (by omega) hr1)
    ·rw [hq] at e
     cases e
     exact ifn h0 (bnd0 (setS_is h0 h1.1 hn) (ifp (by omega) hr2))
    ·rw [hq] at e
     cases e
theorem rupL_is (cs : List (List Int)) (hlen : cs.length * 24 ≤ 140737488351232) (c : List Int) (hcl : c.length * 8 ≤ 140737488351232) (N : Nat) (hN : N ≤ 4096) (hc : ∀ c ∈ cs, LitsOK N c ∧ c.length * 8 ≤ 140737488351232) (hl : LitsOK N c) :
  ∀ (d i : Nat) (vals : List Int), i + d = c.length → vals.length = N → ValsOK vals → ∃ b, Ev (fun k => spec_l03Rup.l0 k cs c vals (i : Int)) b ∧ Ev (fun k => match assumeL vals (c.drop i) with
   | none => some true
   | some v => (propL cs k v []).bind fun t => some (decide (0 ≤ t.2.2))) b := by
 intro d
 induction d with
 | zero =>
  intro i vals hi hvl hv
  obtain rfl : i = c.length := by omega
  rw [List.drop_length, assumeL]
  obtain ⟨r, h1, h2, _, _, _⟩ := run_is cs hlen (vals.count 0) vals [] (Nat.le_refl _) hv (by omega) (by rw [hvl]; exact hc) (by have := List.count_le_length (a := (0 : Int)) (l := vals); simp; omega)
  refine ⟨decide (0 ≤ r.2.2), ?_, ?_⟩
  ·exact stp (fun k => spec_l03Rup.l0.eq_2 ..) (ifn (by omega) (bnd (evc (fun k => spec_l02Run.f.eq_1 ..) h2) (sm _)))
  ·exact bnd h1 (sm _)
 | succ d ih =>
  intro i vals hi hvl hv
  have hil : i < c.length := by omega
  have hx := hl c[i] (List.getElem_mem hil)
  have hr : rd c (i : Int) = c[i] := getD_some (List.getElem?_eq_getElem hil)
  have hup : wrap64 ((i : Int) + 1) = ((i + 1 : Nat) : Int) := by rw [up (by omega) (by omega : (i : Int) < (c.length : Int)) (by omega)]; omega
  have hng : wrap64 (-c[i]) = -c[i] := w64 (by omega) (by omega)
  have hset : spec_l02Set.f vals (-c[i]) = some (setL vals (-c[i])) := setS_is (by omega) (by omega) (by omega)
  have hvo := rd_ok hv (c[i].natAbs : Int) (by omega) (by omega)
  rw [List.drop_eq_getElem_cons hil, assumeL]
  by_cases ht : isL vals c[i] = true
  ·rw [if_pos ht]
   refine ⟨true, ?_, sm _⟩
   refine stp (fun k => spec_l03Rup.l0.eq_2 ..) (ifp (by omega) (ifp (by omega) ?_))
   rw [hr]
   refine bnd0 (abs_is (by omega)) (ifp (by omega) (ifp (by omega) ?_))
   rw [isL_val, decide_eq_true_eq] at ht
   unfold valL at ht
   refine ifn (by split at ht <;> omega) (ifp ?_ (sm _))
   by_cases hneg : c[i] < 0
   ·rw [if_pos hneg] at ht
    rw [show rd vals (c[i].natAbs : Int) = -1 by omega, decide_eq_false (by omega)]
    rfl
   ·rw [if_neg hneg] at ht
    rw [ht, decide_eq_true (by omega)]
    rfl
  ·rw [if_neg ht]
   obtain ⟨b, h1, h2⟩ := ih (i + 1) (setL vals (-c[i])) (by omega) (by rw [setL_length]; exact hvl) (vals_set hv _)
   refine ⟨b, ?_, h2⟩
   refine stp (fun k => spec_l03Rup.l0.eq_2 ..) (ifp (by omega) (ifp (by omega) ?_))
   rw [hr, hup, hng]
   refine bnd0 (abs_is (by omega)) (ifp (by omega) (ifp (by omega) ?_))
   by_cases hz : rd vals (c[i].natAbs : Int) = 0
   ·exact ifp hz (bnd0 hset h1)
   ·refine ifn hz (ifn ?_ (bnd0 hset h1))
    rw [isL_val, decide_eq_true_eq] at ht
    unfold valL at ht
    by_cases hneg : c[i] < 0
    ·rw [if_pos hneg] at ht
     rw [show rd vals (c[i].natAbs : Int) = 1 by omega, decide_eq_false (by omega)]
     decide
    ·rw [if_neg hneg] at ht
     rw [show rd vals (c[i].natAbs : Int) = -1 by omega, decide_eq_true (by omega)]
     decide
theorem rup_is (a : Int) (cs : List (List Int)) (hlen : cs.length * 24 ≤ 140737488351232) (c : List Int) (hcl : c.length * 8 ≤ 140737488351232) (h0 : 0 ≤ a) (h1 : a ≤ 40) (hc : ∀ c ∈ cs, LitsOK (a + 1).toNat c ∧ c.length * 8 ≤ 140737488351232) (hl : LitsOK (a + 1).toNat c) :
  ∃ b, Ev (fun k => spec_l03Rup.f k cs a c) b ∧ Ev (fun k => impl_isRup.f k a cs c) b := by
 obtain ⟨b, h2, h3⟩ := rupL_is cs hlen c hcl (a + 1).toNat (by omega) hc hl c.length 0 (List.replicate (a + 1).toNat 0) (by omega) (by simp) (vals_zero _)
 rw [List.drop_zero] at h3
 have hw : wrap64 (a + 1) = a + 1 := w64 (by omega) (by omega)
 refine ⟨b, evc (fun k => spec_l03Rup.f.eq_1 ..) ?_, evc (fun k => impl_isRup.f.eq_1 ..) (ifp ?_ h3)⟩
 ·rw [hw]
  exact ifp (by omega) (ifp (by omega) h2)
 ·rw [decide_eq_true h0, decide_eq_true (by omega : a ≤ 4000), lits_fit hl, Bool.true_and, Bool.true_and]
  exact List.all_eq_true.2 fun c hc' => lits_fit (hc c hc').1
theorem clause_lits {a : Int} (h0 : 0 ≤ a) (h1 : a ≤ 40) {c : List Int} (h : clauseB c a = true) : LitsOK (a + 1).toNat c := by
 intro x hx
 unfold clauseB at h
 rw [not_any_not c (fun x => litB x a), Bool.and_eq_true] at h
 have := List.all_eq_true.1 h.2 x hx
 simp only [litB, Bool.and_eq_true, decide_eq_true_eq] at this
 rw [w64 (by omega) (by omega)] at this
 refine ⟨this.1, by omega⟩
theorem cnf_lits {a : Int} {l : List (List Int)} (hr : RowsOK l) (h : cnfB a l = true) : 0 ≤ a ∧ a ≤ 40 ∧ ∀ c ∈ l, LitsOK (a + 1).toNat c ∧ c.length * 8 ≤ 140737488351232 := by
 unfold cnfB at h
 rw [not_any_not l (fun c => clauseB c a)] at h
 simp only [Bool.and_eq_true, decide_eq_true_eq] at h
 refine ⟨h.1, h.2.1, fun c hc => ⟨clause_lits h.1 h.2.1 (List.all_eq_true.1 h.2.2.2 c hc), (hr.2 c hc).1⟩⟩
theorem has_is (x : Int) (c : List Int) (hc : c.length * 8 ≤ 140737488351232) : Ev (fun k => spec_l01Has.f k c x) (decide (0 ≤ idxL x c 0)) := by
 refine evc (fun k => spec_l01Has.f.eq_1 ..) ?_
 have key : ∀ (d i : Nat), i + d = c.length → Ev (fun k => spec_l01Has.l0 k c x (i : Int)) (decide (0 ≤ idxL x (c.drop i) i)) := by
  intro d
  induction d with
  | zero =>
   intro i hi
   obtain rfl : i = c.length := by omega
   rw [List.drop_length, idxL]
   exact stp (fun k => spec_l01Has.l0.eq_2 ..) (ifn (by omega) (sm _))
  | succ d ih =>
   intro i hi
   have hil : i < c.length := by omega
   have hr : rd c (i : Int) = c[i] := getD_some (List.getElem?_eq_getElem hil)
   have h2 := ih (i + 1) (by omega)
   have e0 : (0 : Int) ≤ (i : Int) := Int.natCast_nonneg i
   have e1 : (i : Int) < (c.length : Int) := Int.ofNat_lt.2 hil
   rw [List.drop_eq_getElem_cons hil, idxL]
   refine stp (fun k => spec_l01Has.l0.eq_2 ..) (ifp e1 (ifp e0 ?_))
   rw [hr, up e0 e1 (by omega)]
   by_cases hx : c[i] = x
   ·rw [if_pos hx.symm, decide_eq_true e0]
    exact ifp hx (sm _)
   ·rw [if_neg (fun e => hx e.symm)]
    exact ifn hx h2
 have := key c.length 0 (by omega)
 rwa [List.drop_zero] at this
theorem res_is (cs : List (List Int)) (a x : Int) (cl : List Int) (i : Nat) (hi : i < cs.length) (hlen : cs.length * 24 ≤ 140737488351232) (hcl : cl.length ≤ 12) (hd : cs[i].length ≤ 12) (hx : -1000000 ≤ x ∧ x ≤ 1000000) (r : Bool)
  (hk : Ev (fun k => (spec_l03Rup.f k cs a (cl ++ cs[i].filter fun y => y != -x)).bind fun t => if t = true then spec_l03Rat.l0 k cs a cl x (wrap64 ((i : Int) + 1)) else some false) r) : Ev (fun k => spec_l03Rat.l1 k cs a cl x (i : Int) cl 0) r := by
 have e0 : (0 : Int) ≤ (i : Int) := Int.natCast_nonneg i
 have e1 : (i : Int) < (cs.length : Int) := Int.ofNat_lt.2 hi
 have hr : rd_L1 cs (i : Int) = cs[i] := getD_some (List.getElem?_eq_getElem hi)
 have hw : wrap64 (-x) = -x := w64 (by omega) (by omega)
 have hcdl : (cs[i].length : Int) ≤ 9223372036854775807 := Int.le_trans (Int.ofNat_le.2 hd) (by decide)
 clear hx hlen
 have key : ∀ (d j : Nat) (out : List Int), j + d = cs[i].length → out = cl ++ (cs[i].take j).filter (fun y => y != -x) → Ev (fun k => spec_l03Rat.l1 k cs a cl x (i : Int) out (j : Int)) r := by
  intro d
  induction d with
  | zero =>
   intro j out hj ho
   obtain rfl : j = cs[i].length := by omega
   rw [List.take_length] at ho
   subst ho
   refine stp (fun k => spec_l03Rat.l1.eq_2 ..) (ifp e0 (ifp e1 ?_))
   rw [hr]
   exact ifn (by omega) hk
  | succ d ih =>
   intro j out hj ho
   have hjl : j < cs[i].length := by omega
   have f0 : (0 : Int) ≤ (j : Int) := Int.natCast_nonneg j
   have f1 : (j : Int) < (cs[i].length : Int) := Int.ofNat_lt.2 hjl
   have hrj : rd cs[i] (j : Int) = cs[i][j] := getD_some (List.getElem?_eq_getElem hjl)
   have hup : wrap64 ((j : Int) + 1) = ((j + 1 : Nat) : Int) := by rw [up f0 f1 hcdl]; rfl
   have hfl : ((cs[i].take j).filter fun y => y != -x).length ≤ 12 := Nat.le_trans (List.length_filter_le _ _) (Nat.le_trans (by rw [List.length_take]; exact Nat.min_le_right _ _) hd)
   have hol : out.length < 17592186044416 := by
    rw [ho, List.length_append]
    exact Nat.lt_of_le_of_lt (Nat.add_le_add hcl hfl) (by decide)
   have htk : (cs[i].take (j + 1)).filter (fun y => y != -x) = (cs[i].take j).filter (fun y => y != -x) ++ (if (cs[i][j] != -x) = true then [cs[i][j]] else []) := by
    rw [List.take_succ_eq_append_getElem hjl, List.filter_append, List.filter_cons, List.filter_nil]
   refine stp (fun k => spec_l03Rat.l1.eq_2 ..) (ifp e0 (ifp e1 ?_))
   rw [hr]
   refine ifp f1 (ifp f0 ?_)
   rw [hrj, hw, hup]
   by_cases hx : cs[i][j] = -x
   ·refine ifp hx (ih (j + 1) out (by omega) ?_)
    rw [htk, if_neg (by simp [hx]), List.append_nil]
    exact ho
   ·refine ifn hx (ifp hol (ih (j + 1) (out ++ [cs[i][j]]) (by omega) ?_))
    rw [htk, if_pos (bne_iff_ne.2 hx), ho, List.append_assoc]
 exact key cs[i].length 0 cl (by omega) (by simp)
theorem rat_is (a : Int) (cs : List (List Int)) (hlen : cs.length * 24 ≤ 140737488351232) (cl : List Int) (hcl : cl.length ≤ 12) (h0 : 0 ≤ a) (h1 : a ≤ 40) (hc : ∀ c ∈ cs, LitsOK (a + 1).toNat c ∧ c.length * 8 ≤ 140737488351232) (hds : ∀ d ∈ cs, d.length ≤ 12) (hl : LitsOK (a + 1).toNat cl) :
  ∃ b, Ev (fun k => spec_l03Rat.f k cs a cl) b ∧ Ev (fun k => impl_isRat.f k a cs cl) b := by
 by_cases hz : (cl.length : Int) = 0
 ·exact ⟨false, evc (fun k => spec_l03Rat.f.eq_1 ..) (ifp hz (sm _)), evc (fun k => impl_isRat.f.eq_1 ..) (ifp hz (sm _))⟩
 ·have hp : 0 < cl.length := by omega
  have hx0 : rd cl 0 = cl[0] := getD_some (List.getElem?_eq_getElem hp)
  have hxr : -1000000 ≤ rd cl 0 ∧ rd cl 0 ≤ 1000000 := by
   have := (hl cl[0] (List.getElem_mem hp)).2
   rw [hx0]
   omega
  obtain ⟨x, hx⟩ : ∃ x, rd cl 0 = x := ⟨_, rfl⟩
  rw [hx] at hxr
  have hw : wrap64 (-x) = -x := w64 (by omega) (by omega)
  have key : ∀ (d i : Nat), i + d = cs.length → ∃ b : Bool, Ev (fun k => spec_l03Rat.l0 k cs a cl x (i : Int)) (!b) ∧ Ev (fun k => ratsO k a cs cl (cs.drop i)) b := by
   intro d
   induction d with
   | zero =>
    intro i hi
    obtain rfl : i = cs.length := by omega
    refine ⟨false, stp (fun k => spec_l03Rat.l0.eq_2 ..) (ifn (by omega) (sm _)), ?_⟩
    rw [List.drop_length]
    exact sm _
   | succ d ih =>
    intro i hi
    have hil : i < cs.length := by omega
    have e0 : (0 : Int) ≤ (i : Int) := Int.natCast_nonneg i
    have e1 : (i : Int) < (cs.length : Int) := Int.ofNat_lt.2 hil
    have hr : rd_L1 cs (i : Int) = cs[i] := getD_some (List.getElem?_eq_getElem hil)
    have hup : wrap64 ((i : Int) + 1) = ((i + 1 : Nat) : Int) := by rw [up e0 e1 (by omega)]; rfl
    obtain ⟨b0, g1, g2⟩ := ih (i + 1) (by omega)
    have hcd := hc cs[i] (List.getElem_mem hil)
    have hdd := hds cs[i] (List.getElem_mem hil)
    have hhas := has_is (-x) cs[i] hcd.2
    rw [List.drop_eq_getElem_cons hil]
    by_cases hi0 : 0 ≤ idxL (-x) cs[i] 0
    ·rw [decide_eq_true hi0] at hhas
     have hfl := List.length_filter_le (fun y => y != -x) cs[i]
     have hll : LitsOK (a + 1).toNat (cl ++ cs[i].filter fun y => y != -x) := by
      intro y hy
      rcases List.mem_append.1 hy with hy | hy
      ·exact hl y hy
      ·exact hcd.1 y (List.mem_filter.1 hy).1
     obtain ⟨b, r1, r2⟩ := rup_is a cs hlen (cl ++ cs[i].filter fun y => y != -x) (by rw [List.length_append]; omega) h0 h1 hc hll
     have hB : Ev (fun k => ratB k a cs cl cs[i]) (!b) := by
      refine evc (fun k => ratB.eq_1 ..) ?_
      rw [hx]
      exact ifp hi0 (bnd r2 (sm _))
     refine ⟨!b || b0, stp (fun k => spec_l03Rat.l0.eq_2 ..) (ifp e1 (ifp e0 ?_)), evc (fun k => ratsO.eq_2 ..) (bnd hB (bnd g2 (sm _)))⟩
     rw [hr, hw]
     refine bnd hhas (ifp rfl (bnd (sm _) (ifp (by simp; omega) ?_)))
     rw [List.nil_append]
     refine res_is cs a x cl i hil hlen hcl hdd hxr _ (bnd r1 ?_)
     rw [hup]
     cases b with
     | true =>
      rw [Bool.not_true, Bool.false_or]
      exact ifp rfl g1
     | false => exact ifn (by simp) (sm _)
    ·rw [decide_eq_false hi0] at hhas
     have hB : Ev (fun k => ratB k a cs cl cs[i]) false := by
      refine evc (fun k => ratB.eq_1 ..) ?_
      rw [hx]
      exact ifn hi0 (sm _)
     refine ⟨b0, stp (fun k => spec_l03Rat.l0.eq_2 ..) (ifp e1 (ifp e0 ?_)), evc (fun k => ratsO.eq_2 ..) (bnd hB (bnd g2 (sm _)))⟩
     rw [hr, hw, hup]
     exact bnd hhas (ifn (by simp) g1)
  obtain ⟨b, k1, k2⟩ := key cs.length 0 (by omega)
  rw [List.drop_zero] at k2
  refine ⟨!b, evc (fun k => spec_l03Rat.f.eq_1 ..) (ifn hz (ifp (by omega) ?_)), evc (fun k => impl_isRat.f.eq_1 ..) (ifn hz (ifp ?_ (bnd k2 (sm _))))⟩
  ·rw [hx]
   exact k1
  ·unfold ratOK
   rw [hx, decide_eq_true (by omega : cl.length ≤ 4096), decide_eq_true hxr.1, decide_eq_true hxr.2]
   exact List.all_eq_true.2 fun d hd => decide_eq_true (by have := hds d hd; omega)
def SS (l : List Int) : Prop := l.Pairwise fun x y => rk x < rk y
theorem ss_ext : ∀ {a b : List Int}, SS a → SS b → (∀ x, x ∈ a ↔ x ∈ b) → a = b
 | [], [], _, _, _ => rfl
 | [], y :: b, _, _, h => by have := (h y).2 List.mem_cons_self; cases this
 | x :: a, [], _, _, h => by have := (h x).1 List.mem_cons_self; cases this
 | x :: a, y :: b, ha, hb, h => by
  have ha1 := List.pairwise_cons.1 ha
  have hb1 := List.pairwise_cons.1 hb
  have e : x = y := by
   rcases List.mem_cons.1 ((h x).1 List.mem_cons_self) with e | e
   ·exact e
   ·rcases List.mem_cons.1 ((h y).2 List.mem_cons_self) with e2 | e2
    ·exact e2.symm
    ·have h1 := hb1.1 x e
     have h2 := ha1.1 y e2
     omega
  subst e
  refine congrArg (x :: ·) (ss_ext ha1.2 hb1.2 (fun z => ⟨fun hz => ?_, fun hz => ?_⟩))
  ·rcases List.mem_cons.1 ((h z).1 (List.mem_cons_of_mem _ hz)) with e | e
   ·subst e
    have := ha1.1 z hz
    omega
   ·exact e
  ·rcases List.mem_cons.1 ((h z).2 (List.mem_cons_of_mem _ hz)) with e | e
   ·subst e
    have := hb1.1 z hz
    omega
   ·exact e
theorem insR_nil (c : Int) : insR c [] = [c] := rfl
theorem insR_cons (c y : Int) (r : List Int) : insR c (y :: r) = if rk y < rk c then y :: insR c r else if y = c then y :: r else c :: y :: r := by
 unfold insR
 by_cases h : rk y < rk c
 ·rw [if_pos h, show cntB c (y :: r) = cntB c r + 1 by rw [cntB, if_pos h]]
  simp only [List.getElem?_cons_succ, List.take_succ_cons, List.drop_succ_cons, List.cons_append]
  split <;> rfl
 ·rw [if_neg h, show cntB c (y :: r) = 0 by rw [cntB, if_neg h]]
  by_cases e : y = c
  ·subst e; simp
  ·rw [if_neg e]
   have e2 : ¬ (y :: r)[0]? = some c := by simpa using e
   rw [if_neg e2]
   rfl
theorem insR_mem (c : Int) : ∀ (l : List Int) (x : Int), x ∈ insR c l ↔ x = c ∨ x ∈ l
 | [], x => by rw [insR_nil]; simp
 | y :: r, x => by
  rw [insR_cons]
  split
  ·rw [List.mem_cons, insR_mem c r x, List.mem_cons]
   constructor
   ·rintro (h | h | h)
    ·exact .inr (.inl h)
    ·exact .inl h
    ·exact .inr (.inr h)
   ·rintro (h | h | h)
    ·exact .inr (.inl h)
    ·exact .inl h
    ·exact .inr (.inr h)
  ·split
   ·rename_i e
    subst e
    rw [List.mem_cons]
    constructor
    ·exact .inr
    ·rintro (h | h)
     ·exact .inl h
     ·exact h
   ·rw [List.mem_cons]
theorem insR_ss (c : Int) : ∀ l : List Int, SS l → SS (insR c l)
 | [], _ => by rw [insR_nil]; exact List.pairwise_singleton _ _
 | y :: r, h => by
  have h1 := List.pairwise_cons.1 h
  rw [insR_cons]
  split
  ·refine List.pairwise_cons.2 ⟨fun z hz => ?_, insR_ss c r h1.2⟩
   rcases (insR_mem c r z).1 hz with e | e
   ·subst e; assumption
   ·exact h1.1 z e
  ·split
   ·exact h
   ·rename_i h2 h3
    have hlt : rk c < rk y := by
     have : rk y ≠ rk c := fun e => h3 (rk_inj e)
     omega
    refine List.pairwise_cons.2 ⟨fun z hz => ?_, h⟩
    rcases List.mem_cons.1 hz with e | e
    ·subst e; exact hlt
    ·have := h1.1 z e
     omega
theorem insAll_mem : ∀ (l o : List Int) (x : Int), x ∈ insAll l o ↔ x ∈ l ∨ x ∈ o
 | [], o, x => by rw [insAll]; simp
 | c :: r, o, x => by
  rw [insAll, insAll_mem r (insR c o) x, insR_mem, List.mem_cons]
  constructor
  ·rintro (h | h | h)
   ·exact .inl (.inr h)
   ·exact .inl (.inl h)
   ·exact .inr h
  ·rintro ((h | h) | h)
   ·exact .inr (.inl h)
   ·exact .inl h
   ·exact .inr (.inr h)
theorem insAll_ss : ∀ (l o : List Int), SS o → SS (insAll l o)
 | [], o, h => h
 | c :: r, o, h => insAll_ss r (insR c o) (insR_ss c o h)
theorem getElem!_list (l : List Int) (j : Nat) (hj : j < l.length) : l.toArray[j]! = l[j] := by
 rw [getElem!_pos l.toArray j (by simpa using hj)]
 simp
theorem compact_mem (l : List Int) (x : Int) : x ∈ Go.Lib.compact l ↔ x ∈ l := by
 unfold Go.Lib.compact Go.Lib.compactUpTo
 simp only [List.mem_map, List.mem_filter, List.mem_range]
 constructor
 ·rintro ⟨j, ⟨hj, -⟩, rfl⟩
  rw [getElem!_list l j hj]
  exact List.getElem_mem hj
 ·intro hx
  obtain ⟨j, hj, e⟩ := List.mem_iff_getElem.1 hx
  have key : ∀ j, j < l.length → l.toArray[j]! = x → ∃ i, (i < l.length ∧ Go.Lib.keeps l.toArray i = true) ∧ l.toArray[i]! = x := by
   intro j
   induction j with
   | zero => intro hj he; exact ⟨0, ⟨hj, Go.Lib.keeps_lt_one _ 0 (by omega)⟩, he⟩
   | succ j ih =>
    intro hj he
    by_cases h : l.toArray[j + 1]! = l.toArray[j + 1 - 1]!
    ·rw [Nat.add_sub_cancel] at h
     exact ih (by omega) (h.symm.trans he)
    ·exact ⟨j + 1, ⟨hj, Go.Lib.keeps_pos h⟩, he⟩
  exact key j hj (by rw [getElem!_list l j hj]; exact e)
theorem compact_ss (l : List Int) (h : l.Pairwise fun x y => rk x ≤ rk y) : SS (Go.Lib.compact l) := by
 unfold Go.Lib.compact Go.Lib.compactUpTo SS
 rw [List.pairwise_map]
 refine List.Pairwise.imp_of_mem ?_ (List.Pairwise.filter _ List.pairwise_lt_range)
 intro i j hi hj hij
 have hi1 := List.mem_filter.1 hi
 have hj1 := List.mem_filter.1 hj
 have hil := List.mem_range.1 hi1.1
 have hjl := List.mem_range.1 hj1.1
 have hk := hj1.2
 unfold Go.Lib.keeps at hk
 have hne : l.toArray[j]! ≠ l.toArray[j - 1]! := by
  rcases of_decide_eq_true hk with h0 | h0
  ·omega
  ·exact h0
 have hp := List.pairwise_iff_getElem.1 h
 rw [getElem!_list l j hjl, getElem!_list l (j - 1) (by omega)] at hne
 rw [getElem!_list l i hil, getElem!_list l j hjl]
 have h1 := hp (j - 1) j (by omega) hjl (by omega)
 have h2 : rk l[i] ≤ rk l[j - 1] := by
  rcases Nat.lt_or_eq_of_le (show i ≤ j - 1 by omega) with e | e
  ·exact hp i (j - 1) hil (by omega) e
  ·simp only [e]; exact Int.le_refl _
 have h3 : rk l[j] ≠ rk l[j - 1] := fun e => hne (rk_inj e)
 omega
theorem ord_is (l : List Int) : insAll l [] = ordL l := by
 have hs : (sortL l).Pairwise fun x y => rk x ≤ rk y := by
  unfold sortL
  refine (List.pairwise_mergeSort (le := leR) (fun a b c h1 h2 => ?_) (fun a b => ?_) l).imp (fun h => of_decide_eq_true h)
  ·exact decide_eq_true (Int.le_trans (of_decide_eq_true h1) (of_decide_eq_true h2))
  ·unfold leR
   rcases Int.le_total (rk a) (rk b) with h | h
   ·rw [decide_eq_true h, Bool.true_or]
   ·rw [decide_eq_true h, Bool.or_true]
 refine ss_ext (insAll_ss l [] List.Pairwise.nil) (compact_ss _ hs) (fun x => ?_)
 show x ∈ insAll l [] ↔ x ∈ Go.Lib.compact (l.mergeSort leR)
 rw [insAll_mem, compact_mem, (List.mergeSort_perm l leR).mem_iff]
 simp
theorem insAll_len : ∀ (l o : List Int), (insAll l o).length ≤ l.length + o.length
 | [], o => by rw [insAll]; simp
 | c :: r, o => by
  rw [insAll]
  have := insAll_len r (insR c o)
  have := insR_len c o
  simp only [List.length_cons]
  omega
theorem ord_len (l : List Int) : (ordL l).length ≤ l.length := by rw [← ord_is]; simpa using insAll_len l []
abbrev StepsOK (l : List S64) : Prop := Reads.WFL 32 wf64 l
theorem st_len {l : List S64} (h : StepsOK l) : l.length * 32 ≤ 140737488351232 := h.1
theorem st_row {l : List S64} (h : StepsOK l) {i : Nat} {x : S64} (hx : l[i]? = some x) : x.f1.length * 8 ≤ 140737488351232 := (h.2 x (List.mem_of_getElem? hx)).2.1
theorem szSt_is (l : List S64) (h : StepsOK l) (left : Int) (h0 : 0 ≤ left) (h1 : left ≤ 1048576) : ∃ v : Int, Ev (fun k => laws_szStepS.f k l left) v := by
 have hl := st_len h
 by_cases hs : left - (l.length : Int) < 0
 ·exact ⟨-1, evc (fun k => laws_szStepS.f.eq_1 ..) (ifp (by rw [w64 (by omega) (by omega)]; exact hs) (sm _))⟩
 ·have key : ∀ (d i : Nat) (lf : Int), i + d = l.length → 0 ≤ lf → lf ≤ 1048576 → ∃ v : Int, Ev (fun k => laws_szStepS.l0 k l lf (i : Int)) v := by
   intro d
   induction d with
   | zero =>
    intro i lf hi hf0 hf1
    exact ⟨lf, stp (fun k => laws_szStepS.l0.eq_2 ..) (ifn (by omega) (sm _))⟩
   | succ d ih =>
    intro i lf hi hf0 hf1
    have hil : i < l.length := by omega
    have hx : l[i]? = some l[i] := List.getElem?_eq_getElem hil
    have hlen := st_row h hx
    have hsz := szI_is l[i].f1 lf hf0 hf1 (by omega)
    by_cases hn : szI lf l[i].f1 < 0
    ·refine ⟨-1, stp (fun k => laws_szStepS.l0.eq_2 ..) (ifp (by omega) (ifp (by omega) ?_))⟩
     rw [show rd_T64 l (i : Int) = l[i] from getD_some hx]
     have hst : laws_szStep.f l[i].f0 l[i].f1 lf = some (-1) := by unfold laws_szStep.f; rw [hsz]; simp only [Option.bind_some]; rw [if_pos hn]
     exact bnd0 hst (ifp (by decide) (sm _))
    ·obtain ⟨v, hev⟩ := ih (i + 1) (szI lf l[i].f1) (by omega) (by omega) (by have := szI_le lf l[i].f1 hf0; omega)
     rw [show ((i + 1 : Nat) : Int) = (i : Int) + 1 by omega] at hev
     refine ⟨v, stp (fun k => laws_szStepS.l0.eq_2 ..) (ifp (by omega) (ifp (by omega) ?_))⟩
     rw [show rd_T64 l (i : Int) = l[i] from getD_some hx, up (by omega) (by omega : (i : Int) < (l.length : Int)) (by omega)]
     have hst : laws_szStep.f l[i].f0 l[i].f1 lf = some (szI lf l[i].f1) := by unfold laws_szStep.f; rw [hsz]; simp only [Option.bind_some]; rw [if_neg hn]
     exact bnd0 hst (ifn hn hev)
  obtain ⟨v, hev⟩ := key l.length 0 (left - (l.length : Int)) (by omega) (by omega) (by omega)
  refine ⟨v, evc (fun k => laws_szStepS.f.eq_1 ..) (ifn (by rw [w64 (by omega) (by omega)]; exact hs) ?_)⟩
  rw [w64 (by omega) (by omega)]
  exact hev
def toSx (x : S64) : S68 := ⟨x.f0, x.f1⟩
theorem toSt_is (l : List S64) (h : StepsOK l) : Ev (fun k => laws_toStepS.f k l) (l.map toSx) := by
 have hl := st_len h
 refine evc (fun k => laws_toStepS.f.eq_1 ..) (ifp (by omega) (ifp (by omega) ?_))
 refine copy toSx l (fun i out k => laws_toStepS.l0 k l out i) ?_ ?_ (List.replicate (l.length : Int).toNat z68) (by simp)
 ·intro out
  exact stp (fun k => laws_toStepS.l0.eq_2 ..) (ifn (by omega) (sm _))
 ·intro i out r x hx hlen hk
  have hi : i < l.length := (List.getElem?_eq_some_iff.1 hx).1
  have hxl := st_row h hx
  refine stp (fun k => laws_toStepS.l0.eq_2 ..) (ifp (by omega) (ifp (by omega) ?_))
  rw [show rd_T64 l (i : Int) = x from getD_some hx, up (by omega) (by omega : (i : Int) < (l.length : Int)) (by omega), Int.toNat_natCast]
  exact bnd (bnd (toI_is x.f1 (by omega)) (sm _)) (ifp (by omega) hk)
theorem eqSt_self (m : List S68) (hl : m.length ≤ 140737488351232) (h : ∀ x ∈ m, x.f1.length ≤ 140737488351232) : Ev (fun k => laws_eqStepS.f k m m) true := by
 refine evc (fun k => laws_eqStepS.f.eq_1 ..) (ifp rfl ?_)
 refine same m (fun i k => laws_eqStepS.l0 k m m i) ?_ ?_
 ·exact stp (fun k => laws_eqStepS.l0.eq_2 ..) (ifn (by omega) (sm _))
 ·intro i x hx hk
  have hi : i < m.length := (List.getElem?_eq_some_iff.1 hx).1
  have hxl := h x (List.mem_of_getElem? hx)
  refine stp (fun k => laws_eqStepS.l0.eq_2 ..) (ifp (by omega) (ifp (by omega) (ifp (by omega) ?_)))
  rw [show rd_T68 m (i : Int) = x from getD_some hx, up (by omega) (by omega : (i : Int) < (m.length : Int)) (by omega)]
  exact bnd (ifn (by simp) (bnd (eqI_self x.f1 (by omega)) (ifp rfl (sm _)))) (ifp rfl hk)
theorem specSteps_is (m : List S68) (hl : m.length ≤ 140737488351232) (h : ∀ x ∈ m, x.f1.length * 8 ≤ 140737488351232) (v : Int) : Ev (fun k => spec_l03Steps.f k m v) (stepsB m v) := by
 unfold stepsB
 refine evc (fun k => spec_l03Steps.f.eq_1 ..) ?_
 by_cases hc : m.length ≤ 200
 ·rw [decide_eq_true hc, Bool.true_and]
  refine ifn (by omega) ?_
  refine allL m (fun x => stepB x v) (fun i k => spec_l03Steps.l0 k m v i) ?_ ?_
  ·exact stp (fun k => spec_l03Steps.l0.eq_2 ..) (ifn (by omega) (sm _))
  ·intro i x r hx hk
   have hi : i < m.length := (List.getElem?_eq_some_iff.1 hx).1
   have hxl := h x (List.mem_of_getElem? hx)
   refine stp (fun k => spec_l03Steps.l0.eq_2 ..) (ifp (by omega) (ifp (by omega) ?_))
   rw [show rd_T68 m (i : Int) = x from getD_some hx, up (by omega) (by omega : (i : Int) < (m.length : Int)) (by omega)]
   refine bnd (specClause_is x.f1 v hxl) ?_
   unfold stepB
   cases hb : clauseB x.f1 v with
   | true => exact ifp rfl (by simpa using hk)
   | false => exact ifn (by simp) (sm _)
 ·rw [decide_eq_false hc, Bool.false_and]
  exact ifp (by omega) (sm _)
theorem sameC_is (l l' : List Int) (hl : l.length ≤ 4096) (hl' : l'.length ≤ 4096) : Ev (fun k => spec_l01Same.f k l l') (decide (l = l')) := by
 refine evc (fun k => spec_l01Same.f.eq_1 ..) ?_
 by_cases he : l.length = l'.length
 ·refine ifp (by omega) ?_
  have key : ∀ (d i : Nat), i + d = l.length → Ev (fun k => spec_l01Same.l0 k l l' (i : Int)) (decide (l.drop i = l'.drop i)) := by
   intro d
   induction d with
   | zero =>
    intro i hi
    rw [List.drop_of_length_le (by omega), List.drop_of_length_le (by omega)]
    exact stp (fun k => spec_l01Same.l0.eq_2 ..) (ifn (by omega) (sm _))
   | succ d ih =>
    intro i hi
    have h1 : i < l.length := by omega
    have h2 : i < l'.length := by omega
    have hk := ih (i + 1) (by omega)
    have r1 : rd l (i : Int) = l[i] := getD_some (List.getElem?_eq_getElem h1)
    have r2 : rd l' (i : Int) = l'[i] := getD_some (List.getElem?_eq_getElem h2)
    have hd : (l.drop i = l'.drop i) ↔ (l[i] = l'[i] ∧ l.drop (i + 1) = l'.drop (i + 1)) := by
     rw [List.drop_eq_getElem_cons h1, List.drop_eq_getElem_cons h2, List.cons.injEq]
    refine stp (fun k => spec_l01Same.l0.eq_2 ..) (ifp (by omega) (ifp (by omega) (ifp (by omega) ?_)))
    rw [r1, r2, up (by omega) (by omega : (i : Int) < (l.length : Int)) (by omega)]
    by_cases hx : l[i] = l'[i]
    ·refine ifp hx ?_
     rw [show decide (l.drop i = l'.drop i) = decide (l.drop (i + 1) = l'.drop (i + 1)) from decide_eq_decide.2 (by rw [hd]; exact ⟨fun h => h.2, fun h => ⟨hx, h⟩⟩)]
     rw [show (i : Int) + 1 = ((i + 1 : Nat) : Int) by omega]
     exact hk
    ·rw [decide_eq_false (fun h => hx (hd.1 h).1)]
     exact ifn hx (sm _)
  simpa using key l.length 0 (by omega)
 ·rw [decide_eq_false (fun e => he (by rw [e]))]
  exact ifn (by omega) (sm _)
def okc (a : Int) (c : List Int) : Prop := LitsOK (a + 1).toNat c ∧ c.length ≤ 12
theorem okc_inR {a : Int} (h1 : a ≤ 40) {c : List Int} (h : okc a c) : c.length ≤ 4096 ∧ ∀ x ∈ c, inR x :=
 ⟨by have := h.2; omega, fun x hx => by have := (h.1 x hx).2; unfold inR; omega⟩
theorem okc_okO {a : Int} (h1 : a ≤ 40) {c : List Int} (h : okc a c) : okO c = true := by
 unfold okO impl_inOrder.f
 rw [if_pos (okc_inR h1 h)]
 rfl
theorem fromEnd_lt (own : List Int) (cs : List (List Int)) : ∀ n : Nat, -1 ≤ fromEnd own cs n ∧ fromEnd own cs n < n
 | 0 => by unfold fromEnd; omega
 | n + 1 => by
  have := fromEnd_lt own cs n
  unfold fromEnd
  split <;> omega
theorem find_is (a : Int) (h1 : a ≤ 40) (cs : List (List Int)) (hlen : cs.length ≤ 4096) (hcs : ∀ d ∈ cs, okc a d) (c : List Int) (hc : okc a c) : Ev (fun k => spec_l03Find.f k cs c) (fromEnd (ordL c) cs cs.length) := by
 have hs : ∀ d, okc a d → spec_l01Sorted.f d = some (ordL d, !(oppB (ordL d))) := fun d hd => by
  unfold spec_l01Sorted.f
  rw [if_pos (okc_inR h1 hd), ord_is]
 have hol : ∀ d, okc a d → (ordL d).length ≤ 4096 := fun d hd => Nat.le_trans (ord_len d) (okc_inR h1 hd).1
 refine evc (fun k => spec_l03Find.f.eq_1 ..) (bnd0 (hs c hc) ?_)
 have key : ∀ n : Nat, n ≤ cs.length → Ev (fun k => spec_l03Find.l0 k cs (ordL c) ((n : Int) - 1)) (fromEnd (ordL c) cs n) := by
  intro n
  induction n with
  | zero =>
   intro _
   exact stp (fun k => spec_l03Find.l0.eq_2 ..) (ifn (by omega) (sm _))
  | succ n ih =>
   intro hn
   have hnl : n < cs.length := by omega
   have hd := hcs cs[n] (List.getElem_mem hnl)
   rw [show ((n + 1 : Nat) : Int) - 1 = (n : Int) by omega, fromEnd, show cs.getD n [] = cs[n] by rw [List.getD_eq_getElem?_getD, List.getElem?_eq_getElem hnl]; rfl]
   refine stp (fun k => spec_l03Find.l0.eq_2 ..) (ifp (by omega) (ifp (by omega) (ifp (by omega) ?_)))
   rw [show rd_L1 cs (n : Int) = cs[n] from getD_some (List.getElem?_eq_getElem hnl)]
   refine bnd0 (hs _ hd) (bnd (sameC_is (ordL c) (ordL cs[n]) (hol c hc) (hol _ hd)) ?_)
   by_cases he : ordL cs[n] = ordL c
   ·rw [if_pos he, decide_eq_true he.symm]
    exact ifp rfl (sm _)
   ·rw [if_neg he, decide_eq_false (fun e => he e.symm)]
    refine ifn Bool.false_ne_true ?_
    rw [w64 (by omega) (by omega)]
    exact ih (by omega)
 rw [w64 (by omega) (by omega)]
 exact key cs.length (Nat.le_refl _)
theorem chk_is (a : Int) (h0 : 0 ≤ a) (h1 : a ≤ 40) : ∀ (st : List S68) (i : Nat) (cs : List (List Int)), (∀ x ∈ st, okc a x.f1) → (∀ d ∈ cs, okc a d) → cs.length + st.length ≤ 4096 →
  ∃ r, Ev (fun k => chkS k a st i cs) r ∧ Ev (fun k => chkI k a st i cs) r
 | [], i, cs, _, _, _ => ⟨_, evc (fun k => chkS.eq_1 ..) (sm _), evc (fun k => chkI.eq_1 ..) (sm _)⟩
 | x :: st, i, cs, hst, hcs, hlen => by
  have hx := hst x List.mem_cons_self
  have hst2 : ∀ y ∈ st, okc a y.f1 := fun y hy => hst y (List.mem_cons_of_mem _ hy)
  rw [List.length_cons] at hlen
  have hb : ∀ c ∈ cs, LitsOK (a + 1).toNat c ∧ c.length * 8 ≤ 140737488351232 := fun c hc => ⟨(hcs c hc).1, by have := (hcs c hc).2; omega⟩
  by_cases hdel : x.f0 = true
  ·have hf := find_is a h1 cs (by omega) hcs x.f1 hx
   obtain ⟨g1, g2⟩ := fromEnd_lt (ordL x.f1) cs cs.length
   have hok : okO x.f1 = true ∧ cs.all okO = true := ⟨okc_okO h1 hx, List.all_eq_true.2 fun d hd => okc_okO h1 (hcs d hd)⟩
   by_cases hq : fromEnd (ordL x.f1) cs cs.length < 0
   ·exact ⟨_, evc (fun k => chkS.eq_2 ..) (ifp hdel (bnd hf (ifp hq (sm _)))), evc (fun k => chkI.eq_2 ..) (ifp hdel (ifp hok (ifp hq (sm _))))⟩
   ·have hlt : (fromEnd (ordL x.f1) cs cs.length).toNat < cs.length := by omega
    obtain ⟨r, e1, e2⟩ := chk_is a h0 h1 st (i + 1) (cs.eraseIdx (fromEnd (ordL x.f1) cs cs.length).toNat) hst2 (fun d hd => hcs d (List.mem_of_mem_eraseIdx hd)) (by rw [List.length_eraseIdx_of_lt hlt]; omega)
    exact ⟨r, evc (fun k => chkS.eq_2 ..) (ifp hdel (bnd hf (ifn hq (ifp hlt e1)))), evc (fun k => chkI.eq_2 ..) (ifp hdel (ifp hok (ifn hq e2)))⟩
  ·obtain ⟨b, b1, b2⟩ := rup_is a cs (by omega) x.f1 (by have := hx.2; omega) h0 h1 hb hx.1
   obtain ⟨d, d1, d2⟩ := rat_is a cs (by omega) x.f1 hx.2 h0 h1 hb (fun d hd => (hcs d hd).2) hx.1
   have hj : ∃ d', Ev (fun k => if b = true then some true else spec_l03Rat.f k cs a x.f1) d' ∧ Ev (fun k => if b = true then some true else impl_isRat.f k a cs x.f1) d' := by
    by_cases hbt : b = true
    ·exact ⟨true, ifp hbt (sm _), ifp hbt (sm _)⟩
    ·exact ⟨d, ifn hbt d1, ifn hbt d2⟩
   obtain ⟨d', j1, j2⟩ := hj
   by_cases hdt : d' = true
   ·by_cases hl : x.f1.length = 0
    ·exact ⟨_, evc (fun k => chkS.eq_2 ..) (ifn hdel (bnd b1 (bnd j1 (ifp hdt (ifp hl (sm _)))))), evc (fun k => chkI.eq_2 ..) (ifn hdel (bnd b2 (bnd j2 (ifp hdt (ifp hl (sm _))))))⟩
    ·obtain ⟨r, e1, e2⟩ := chk_is a h0 h1 st (i + 1) (cs ++ [x.f1]) hst2 (fun d hd => by
      rcases List.mem_append.1 hd with h | h
      ·exact hcs d h
      ·rw [List.mem_singleton] at h; rw [h]; exact hx) (by rw [List.length_append]; simp only [List.length_cons, List.length_nil]; omega)
     exact ⟨r, evc (fun k => chkS.eq_2 ..) (ifn hdel (bnd b1 (bnd j1 (ifp hdt (ifn hl e1))))), evc (fun k => chkI.eq_2 ..) (ifn hdel (bnd b2 (bnd j2 (ifp hdt (ifn hl e2)))))⟩
   ·exact ⟨_, evc (fun k => chkS.eq_2 ..) (ifn hdel (bnd b1 (bnd j1 (ifn hdt (sm _))))), evc (fun k => chkI.eq_2 ..) (ifn hdel (bnd b2 (bnd j2 (ifn hdt (sm _)))))⟩
theorem both (a : Int) (l : List (List Int)) (h : RowsOK l) (m : List S68) (hml : m.length ≤ 140737488351232) (hmr : ∀ x ∈ m, x.f1.length * 8 ≤ 140737488351232) : ∃ r, Ev (fun k => spec_CheckProof.f k a l m) r ∧ Ev (fun k => impl_CheckProof.f k a l m) r := by
 by_cases h1 : (m.length : Int) > 4096
 ·exact ⟨(0, 2), evc (fun k => spec_CheckProof.f.eq_1 ..) (ifp h1 (sm _)), evc (fun k => impl_CheckProof.f.eq_1 ..) (ifp h1 (sm _))⟩
 ·by_cases h2 : cnfB a l = true
  ·have hsp := specSteps_is m hml hmr a
   have him : impl_areSteps.f m a = some (stepsB m a) := rfl
   by_cases h3 : stepsB m a = true
   ·rw [h3] at hsp him
    obtain ⟨h4, h5, h6⟩ := cnf_lits h h2
    have hds : ∀ d ∈ l, okc a d := by
     intro d hd
     refine ⟨(h6 d hd).1, ?_⟩
     unfold cnfB at h2
     rw [not_any_not l (fun c => clauseB c a)] at h2
     simp only [Bool.and_eq_true, decide_eq_true_eq] at h2
     have := List.all_eq_true.1 h2.2.2.2 d hd
     unfold clauseB at this
     simp only [Bool.and_eq_true, decide_eq_true_eq] at this
     exact this.1
    have hll : l.length ≤ 300 := by
     unfold cnfB at h2
     simp only [Bool.and_eq_true, decide_eq_true_eq] at h2
     exact h2.2.2.1
    have h3' := h3
    unfold stepsB at h3'
    simp only [Bool.and_eq_true, decide_eq_true_eq, List.all_eq_true] at h3'
    have hms : ∀ x ∈ m, okc a x.f1 := fun x hx => by
     have hb := h3'.2 x hx
     unfold stepB at hb
     refine ⟨clause_lits h4 h5 hb, ?_⟩
     unfold clauseB at hb
     simp only [Bool.and_eq_true, decide_eq_true_eq] at hb
     exact hb.1
    obtain ⟨r, r1, r2⟩ := chk_is a h4 h5 m 0 l hms hds (by omega)
    have s1 : Ev (fun k => spec_l03Check.f k a l m) r := evc (fun k => spec_l03Check.f.eq_1 ..) (ifp ⟨hll, h3'.1⟩ r1)
    have s2 : Ev (fun k => impl_checkProof.f k a l m) r := evc (fun k => impl_checkProof.f.eq_1 ..) (ifp ⟨hll, h3'.1⟩ r2)
    exact ⟨(r.1, r.2), evc (fun k => spec_CheckProof.f.eq_1 ..) (ifn h1 (bnd (specCnf_is a l h) (ifp h2 (bnd hsp (ifp rfl (bnd s1 (sm _))))))), evc (fun k => impl_CheckProof.f.eq_1 ..) (ifn h1 (bnd0 rfl (ifp h2 (bnd0 him (ifp rfl (bnd s2 (sm _)))))))⟩
   ·exact ⟨(0, 1), evc (fun k => spec_CheckProof.f.eq_1 ..) (ifn h1 (bnd (specCnf_is a l h) (ifp h2 (bnd hsp (ifn h3 (sm _)))))), evc (fun k => impl_CheckProof.f.eq_1 ..) (ifn h1 (bnd0 rfl (ifp h2 (bnd0 him (ifn h3 (sm _))))))⟩
  ·exact ⟨(0, 1), evc (fun k => spec_CheckProof.f.eq_1 ..) (ifn h1 (bnd (specCnf_is a l h) (ifn h2 (sm _)))), evc (fun k => impl_CheckProof.f.eq_1 ..) (ifn h1 (bnd0 rfl (ifn h2 (sm _))))⟩
theorem FnExactCheckProof : laws_FnExactCheckProof.Pure := by
 intro a l st ha hl hst
 refine Ev.rounds ?_
 refine evc (fun k => laws_FnExactCheckProof.f.eq_1 ..) ?_
 obtain ⟨v, hv, hsz⟩ := szCnf_is a l hl 1048576 (by omega) (by omega)
 refine bnd hsz ?_
 by_cases h : v < 0
 ·exact ifp h (sm _)
 ·refine ifn h ?_
  obtain ⟨v2, hsz2⟩ := szSt_is st hst v (by omega) hv
  refine bnd hsz2 ?_
  by_cases h2 : v2 < 0
  ·exact ifp h2 (sm _)
  ·have hto := toCnf_is a l hl
   have hts := toSt_is st hst
   have hml : (st.map toSx).length ≤ 140737488351232 := by rw [List.length_map]; have := st_len hst; omega
   have hmr : ∀ x ∈ st.map toSx, x.f1.length * 8 ≤ 140737488351232 := by
    intro x hx
    obtain ⟨y, hy, rfl⟩ := List.mem_map.1 hx
    exact (hst.2 y hy).2.1
   generalize st.map toSx = m at hts hml hmr
   obtain ⟨r, r1, r2⟩ := both a l hl m hml hmr
   refine ifn h2 (bnd hto (bnd hts (bnd r1 (bnd hto (bnd hts (bnd r2 (ifp rfl ?_)))))))
   refine stp (fun k => laws_FnExactCheckProof.j0.eq_2 ..) (ifn (by simp) ?_)
   exact bnd hto (bnd (eqCnf_self a l hl) (ifp rfl (bnd hts (bnd (eqSt_self m hml (fun x hx => by have := hmr x hx; omega)) (ifp rfl (sm _))))))
end Go.Proofs.Ytelfahcjeldliaa.Pure
end
section
set_option linter.unusedVariables false
set_option linter.unusedSimpArgs false
namespace Go.Proofs.Ytelfahcjeldliaa.fnExactCheckProof
open Go.ChangeShapes Go.WideShapes Go.ChangeAt Go.RowKit Go.Proofs.Ytelfahcjeldliaa.PFnExactCheckProof Go.Proofs.YtelfahcjeldliaaW.PrintWords
open Go.ChangeMaps (open_string shut_string)
theorem own : ownKnob Try.prog.godebug = none := by kernel_rfl
theorem laidOut : laidOutB Try.prog = true := by kernel_rfl
set_option maxRecDepth 100000 in
theorem lifted (os : Os) (started : os.Started) (H : Type) (enc : TypeId × Value → H) :
  ReturnsInHanded {} Try.checked os 3 .any (Rows.fnExactCheckProofSpec.pre6 enc Try.prog Try.f3 Rows.fnExactCheckProofRow.domain false) (Rows.fnExactCheckProofSpec.post enc Try.prog Try.f3 false true false false) := by
 refine returnsInHanded_of_change_sized (C := Try.checked) own started (by kernel_rfl) Try.func3
  (ChangeSpec.witness6 (enc := enc) (C := Try.checked) false ⟨#[], #[.agg #[.int .i64 0, .slice none 0 0], .slice none 0 0], []⟩ 8 (by kernel_rfl) (by kernel_rfl) (by kernel_rfl) (by kernel_rfl)) ?_
 intro W base args ds gs before hval0 hW hcnd hsz0 _
 have hsz : (DataW.weightsEach Try.prog (Try.f3.params.toList ++ Rows.fnExactCheckProofSpec.plain.varTypes Try.prog) (ds ++ gs)).all (· ≤ reachBytes) = true := hsz0
 have hval : ∀ (j : Nat) t v, Try.f3.params[j]? = some t → args[j]? = some v → Value.okWide Try.prog W .any base t v := hval0
 have hW' := hW
 obtain ⟨p, q, hA0, hV, rfl, hfz, hnd⟩ := hW
 have hA : DataW.TrodAll enc Try.prog W 0 (fun _ => true) true Try.f3.params.toList args.toList ds p := hA0
 rw [Try.params3] at hA hval hsz
 obtain ⟨v0, vs0, d0, ds0, p0, q0, hargs, rfl, rfl, h0, r0⟩ := trodAll_cons hA
 obtain ⟨v1, vs1, d1, ds1, p1, q1, rfl, rfl, rfl, h1, r1⟩ := trodAll_cons r0
 obtain ⟨rfl, rfl, rfl⟩ := trodAll_nil r1
 obtain rfl : args = #[v0, v1] := by cases args; simp_all
 obtain ⟨rfl, rfl⟩ := trodVars_none hV
 obtain ⟨cs0, rfl, z0⟩ := okWide_struct Try.underlying24 (hval 0 24 v0 rfl rfl)
 have k0 := h0
 have lt0 : ∀ x ∈ p0, x.block < W.heap.size := by obtain ⟨m, hm⟩ := k0; exact DataW.trod_lt m _ _ _ hm
 obtain ⟨x0, K0, w0⟩ := Reads.arg (j := 0) (t := 24) (k := Kd.iso (Kd.pair (Kd.int .i64) (Kd.slice 37 (Kd.slice 3 (Kd.int .i64)))) (fun x : (Int) × (List (List Int)) => x)) (wf := fun p : (Int) × (List (List Int)) => Reads.WFI p.1 ∧ ((Reads.WFL 24 (Reads.WFL 8 Reads.WFI)) p.2)) (fun _ => Reads.struct (wf := fun p : (Int) × (List (List Int)) => Reads.WFI p.1 ∧ ((Reads.WFL 24 (Reads.WFL 8 Reads.WFI)) p.2)) (fun x : (Int) × (List (List Int)) => x) (fun p => p) (fun _ => rfl) Try.underlying24 (by kernel_rfl) (fun m _ => (Reads.more rfl (by kernel_rfl) ((Reads.intR Try.underlying3) m) (Reads.last rfl (by kernel_rfl) ((Reads.sliceR (t := 22) (e := 37) Try.underlying22 (by kernel_rfl) (by kernel_rfl) (Reads.sliceR (t := 37) (e := 3) Try.underlying37 (by kernel_rfl) (by kernel_rfl) (Reads.intR Try.underlying3))) m))))) hsz rfl rfl h0
 obtain ⟨_, _, e0, rfl, ⟨A0_1, c0_1, rfl, hc0_1, hr0_1⟩⟩ := K0
 obtain rfl : cs0 = #[.int .i64 x0.1, .slice A0_1 x0.2.length c0_1] := by
  apply Array.toList_inj.1
  exact e0
 obtain ⟨A1, n1, c1, rfl⟩ := okWide_slice Try.underlying25 (hval 1 25 v1 rfl rfl)
 have k1 := h1
 have lt1 : ∀ x ∈ p1, x.block < W.heap.size := by obtain ⟨m, hm⟩ := k1; exact DataW.trod_lt m _ _ _ hm
 obtain ⟨l1, K1, w1⟩ := Reads.arg (j := 1) (t := 25) (k := (Kd.slice 64 k64)) (wf := (Reads.WFL 32 wf64)) (Reads.sliceR (t := 25) (e := 64) Try.underlying25 (by kernel_rfl) (by kernel_rfl) rk64) hsz rfl rfl h1
 obtain ⟨B1, C1, e1, hc1, hr1⟩ := K1
 simp only [Value.cells, List.cons.injEq, Value.slice.injEq, and_true] at e1
 obtain ⟨rfl, rfl, rfl⟩ := e1
 clear hA0 hval0 hsz0 hsz
 obtain ⟨k, h⟩ := Pure.FnExactCheckProof x0.1 x0.2 l1 (w0.1) (w0.2) w1
 refine (laws_FnExactCheckProof.calls k x0.1 _ _ x0.2 _ _ l1 true W hr0_1 hc0_1 hr1 hc1 h).mono ?_
 rintro e W' ⟨rfl, bel⟩
 exact ⟨_, rfl, _, _, _, [], _, [], hW', trodAll_mk1 (shut_bool Try.underlying4 _), (trodAll_cons_mk (Below.trod laidOut (by kernel_rfl) (of_decide_eq_true (by kernel_rfl)) k0 bel lt0) (trodAll_cons_mk (Below.trod laidOut (by kernel_rfl) (of_decide_eq_true (by kernel_rfl)) k1 bel lt1) trodAll_mk0)), rfl, bel.frame _, fun h => by cases h⟩
theorem over : Rows.fnExactCheckProofRow.holds Try.pinned (OpenSpec.ofChange Rows.fnExactCheckProofSpec) :=
 OpenClaim.holds_of_wide 3 Try.f3 rfl rfl rfl rfl rfl rfl rfl ⟨rfl, rfl, rfl, rfl, rfl⟩ rfl rfl rfl rfl rfl (by kernel_rfl) Try.func3 (by kernel_rfl)
  (of_decide_eq_true (by kernel_rfl)) (by unfold Func.isWrapper; first | (rw [if_pos (by decide +kernel)]; kernel_rfl) | (rw [if_neg (by decide +kernel)]; exact ⟨rfl, rfl⟩))
  (fun os started H enc _ => lifted os started H enc)
theorem proved : Rows.FnExactCheckProofSaid := over
end Go.Proofs.Ytelfahcjeldliaa.fnExactCheckProof
namespace Go.Proofs.Ytelfahcjeldliaa
theorem fnExactCheckProof_holds : Rows.FnExactCheckProofSaid := fnExactCheckProof.proved
end Go.Proofs.Ytelfahcjeldliaa
end
#print axioms Go.Proofs.Ytelfahcjeldliaa.fnExactCheckProof_holds
