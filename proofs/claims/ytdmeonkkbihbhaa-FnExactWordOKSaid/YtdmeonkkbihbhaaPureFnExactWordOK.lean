/- FnExactWordOK: the pure statement behind the law: the program tells of the same words as the reference that they are right. No conditions. -/
import Derived.Test.YtdmeonkkbihbhaaDefFnExactWordOK
import Derived.Test.YtdmeonkkbihbhaaPlain
set_option linter.unusedVariables false
set_option linter.unusedSimpArgs false
namespace Go.Proofs.Ytdmeonkkbihbhaa.Pure
open Go.RowKit Go.Proofs.Ytdmeonkkbihbhaa Go.Proofs.Ytdmeonkkbihbhaa.PFnExactWordOK Go.Proofs.YtdmeonkkbihbhaaW.PrintWords Go.Proofs.YtdmeonkkbihbhaaW.PrintLast Go.Proofs.Ytdmeonkkbihbhaa.Plain

/-! a tree of type Word: its bounds, the program's own copy of it, and the functions sz, to and eq -/
theorem u_num {x : Int} (h : Reads.WFI x) : -9223372036854775808 ≤ x ∧ x ≤ 9223372036854775807 := h
mutual
def cv : S35 → S40
  | ⟨a, b, l⟩ => ⟨a, b, cvs l⟩
def cvs : List S35 → List S40
  | [] => []
  | x :: r => cv x :: cvs r
end
theorem cvs_map (l : List S35) : cvs l = l.map cv := by
  induction l with
  | nil => rfl
  | cons x r ih => rw [cvs, List.map_cons, ih]
theorem cv_0 (x : S35) : (cv x).f0 = x.f0 := by
  obtain ⟨a, b, l⟩ := x
  rw [cv]
theorem cv_1 (x : S35) : (cv x).f1 = x.f1 := by
  obtain ⟨a, b, l⟩ := x
  rw [cv]
theorem cv_2 (x : S35) : (cv x).f2 = x.f2.map cv := by
  obtain ⟨a, b, l⟩ := x
  rw [cv]
  exact cvs_map l
theorem cv_mk (x : S35) : (⟨x.f0, x.f1, x.f2.map cv⟩ : S40) = cv x := by
  obtain ⟨a, b, l⟩ := x
  rw [cv, cvs_map]
abbrev WL (n : Nat) (l : List S35) : Prop := Reads.WFL 40 (wf35N n) l
theorem wl_le {n m : Nat} (h : n ≤ m) : ∀ x, wf35N n x → wf35N m x := by
  induction n generalizing m with
  | zero => exact fun x hx => hx.elim
  | succ n ih =>
    intro x hx
    cases m with
    | zero => omega
    | succ m => exact ⟨hx.1, hx.2.1, hx.2.2.1, fun y hy => ih (by omega) y (hx.2.2.2 y hy)⟩
theorem wl_of {l : List S35} (h : Reads.WFL 40 wf35 l) : ∃ n, WL n l := by
  have : ∀ l : List S35, (∀ x ∈ l, wf35 x) → ∃ n, ∀ x ∈ l, wf35N n x := by
    intro l
    induction l with
    | nil => exact fun _ => ⟨0, fun x hx => by cases hx⟩
    | cons a r ih =>
      intro h
      obtain ⟨n, hn⟩ := ih fun x hx => h x (List.mem_cons_of_mem _ hx)
      obtain ⟨m, hm⟩ := h a List.mem_cons_self
      refine ⟨n + m, fun x hx => ?_⟩
      rcases List.mem_cons.1 hx with rfl | hx
      · exact wl_le (by omega) _ hm
      · exact wl_le (by omega) _ (hn x hx)
  obtain ⟨n, hn⟩ := this l h.2
  exact ⟨n, h.1, hn⟩
theorem szS_is (n : Nat) : ∀ l, WL n l → ∀ left : Int, 0 ≤ left → left ≤ 1048576 → ∃ v : Int, -1 ≤ v ∧ v ≤ 1048576 ∧ Ev (fun k => laws_szWordS.f k l left) v := by
  induction n with
  | zero =>
    intro l h left h0 h1
    cases l with
    | cons x r => exact (h.2 x List.mem_cons_self).elim
    | nil =>
      refine ⟨left, by omega, h1, stp (fun k => laws_szWordS.f.eq_2 ..) ?_⟩
      rw [show wrap64 (left - (([] : List S35).length : Int)) = left by simp; exact w64 (by omega) (by omega)]
      exact ifn (by omega) (stp (fun k => laws_szWordS.l0.eq_2 ..) (ifn (by simp) (sm _)))
  | succ n ih =>
    intro l h left h0 h1
    have hl : l.length * 40 ≤ 140737488351232 := h.1
    by_cases hs : left - (l.length : Int) < 0
    · exact ⟨-1, by omega, by omega, stp (fun k => laws_szWordS.f.eq_2 ..) (ifp (by rw [w64 (by omega) (by omega)]; exact hs) (sm _))⟩
    · have key : ∀ (d i : Nat) (lf : Int), i + d = l.length → 0 ≤ lf → lf ≤ 1048576 → ∃ v : Int, -1 ≤ v ∧ v ≤ 1048576 ∧ Ev (fun k => laws_szWordS.l0 k l lf (i : Int)) v := by
        intro d
        induction d with
        | zero =>
          intro i lf hi hf0 hf1
          exact ⟨lf, by omega, hf1, stp (fun k => laws_szWordS.l0.eq_2 ..) (ifn (by omega) (sm _))⟩
        | succ d ihd =>
          intro i lf hi hf0 hf1
          have hil : i < l.length := by omega
          have hx : l[i]? = some l[i] := List.getElem?_eq_getElem hil
          have hw := h.2 l[i] (List.getElem_mem hil)
          obtain ⟨v, hv0, hv1, hv⟩ := ih l[i].f2 hw.2.2 lf hf0 hf1
          by_cases hn : v < 0
          · refine ⟨-1, by omega, by omega, stp (fun k => laws_szWordS.l0.eq_2 ..) (ifp (by omega) (ifp (by omega) ?_))⟩
            rw [show rd_T35 l (i : Int) = l[i] from getD_some hx]
            exact bnd (a := -1) (bnd hv (ifp hn (sm _))) (ifp (by omega) (sm _))
          · obtain ⟨u, hu0, hu1, hu⟩ := ihd (i + 1) v (by omega) (by omega) hv1
            rw [show ((i + 1 : Nat) : Int) = (i : Int) + 1 by omega] at hu
            refine ⟨u, hu0, hu1, stp (fun k => laws_szWordS.l0.eq_2 ..) (ifp (by omega) (ifp (by omega) ?_))⟩
            rw [show rd_T35 l (i : Int) = l[i] from getD_some hx, up (by omega) (by omega : (i : Int) < (l.length : Int)) (by omega)]
            exact bnd (a := v) (bnd hv (ifn hn (sm _))) (ifn hn hu)
      obtain ⟨v, hv0, hv1, hev⟩ := key l.length 0 (left - (l.length : Int)) (by omega) (by omega) (by omega)
      refine ⟨v, hv0, hv1, stp (fun k => laws_szWordS.f.eq_2 ..) (ifn (by rw [w64 (by omega) (by omega)]; exact hs) ?_)⟩
      rw [w64 (by omega) (by omega)]
      exact hev
theorem sz_is (a b : Int) (l : List S35) (h : Reads.WFL 40 wf35 l) : ∃ v : Int, Ev (fun k => laws_szWord.f k a b l 1048576) v := by
  obtain ⟨n, hn⟩ := wl_of h
  obtain ⟨v, _, _, hv⟩ := szS_is n l hn 1048576 (by omega) (by omega)
  by_cases hs : v < 0
  · exact ⟨-1, bnd hv (ifp hs (sm _))⟩
  · exact ⟨v, bnd hv (ifn hs (sm _))⟩
theorem toS_is (n : Nat) : ∀ l, WL n l → Ev (fun k => laws_toWordS.f k l) (l.map cv) := by
  induction n with
  | zero =>
    intro l h
    cases l with
    | cons x r => exact (h.2 x List.mem_cons_self).elim
    | nil => exact stp (fun k => laws_toWordS.f.eq_2 ..) (ifp (by simp) (ifp (by simp) (stp (fun k => laws_toWordS.l0.eq_2 ..) (ifn (by simp) (sm _)))))
  | succ n ih =>
    intro l h
    have hl : l.length * 40 ≤ 140737488351232 := h.1
    refine stp (fun k => laws_toWordS.f.eq_2 ..) (ifp (by omega) (ifp (by omega) ?_))
    refine copy cv l (fun i out k => laws_toWordS.l0 k l out i) ?_ ?_ (List.replicate (l.length : Int).toNat z40) (by simp)
    · intro out
      exact stp (fun k => laws_toWordS.l0.eq_2 ..) (ifn (by omega) (sm _))
    · intro i out r x hx hlen hk
      have hi : i < l.length := (List.getElem?_eq_some_iff.1 hx).1
      have hw := h.2 x (List.mem_of_getElem? hx)
      refine stp (fun k => laws_toWordS.l0.eq_2 ..) (ifp (by omega) (ifp (by omega) ?_))
      rw [show rd_T35 l (i : Int) = x from getD_some hx, up (by omega) (by omega : (i : Int) < (l.length : Int)) (by omega), Int.toNat_natCast]
      refine bnd (a := (x.f0, x.f1, x.f2.map cv)) (bnd (ih x.f2 hw.2.2) (sm _)) (ifp (by omega) ?_)
      show Ev (fun k => laws_toWordS.l0 k l (out.set i ⟨x.f0, x.f1, x.f2.map cv⟩) ((i : Int) + 1)) r
      rw [cv_mk]
      exact hk
theorem to_is (a b : Int) (l : List S35) (h : Reads.WFL 40 wf35 l) : Ev (fun k => laws_toWord.f k a b l) (a, b, l.map cv) := by
  obtain ⟨n, hn⟩ := wl_of h
  exact bnd (toS_is n l hn) (sm _)
/-- a tree of the program's kind within its bounds -/
def HN : Nat → S40 → Prop
  | 0, _ => False
  | n + 1, x => Reads.WFI x.f0 ∧ (Reads.WFI x.f1 ∧ Reads.WFL 40 (HN n) x.f2)
abbrev HL (n : Nat) (l : List S40) : Prop := Reads.WFL 40 (HN n) l
theorem HN_cv (n : Nat) : ∀ x, wf35N n x → HN n (cv x) := by
  induction n with
  | zero => exact fun x h => h.elim
  | succ n ih =>
    intro x h
    refine ⟨by rw [cv_0]; exact h.1, by rw [cv_1]; exact h.2.1, ?_⟩
    rw [cv_2]
    refine ⟨by simpa using h.2.2.1, fun y hy => ?_⟩
    obtain ⟨z, hz, rfl⟩ := List.mem_map.1 hy
    exact ih z (h.2.2.2 z hz)
theorem HL_cv (n : Nat) (l : List S35) (h : WL n l) : HL n (l.map cv) := by
  refine ⟨by simpa using h.1, fun y hy => ?_⟩
  obtain ⟨z, hz, rfl⟩ := List.mem_map.1 hy
  exact HN_cv n z (h.2 z hz)
theorem eqS_self (n : Nat) : ∀ l, HL n l → Ev (fun k => laws_eqWordS.f k l l) true := by
  induction n with
  | zero =>
    intro l h
    cases l with
    | cons x r => exact (h.2 x List.mem_cons_self).elim
    | nil => exact stp (fun k => laws_eqWordS.f.eq_2 ..) (ifp rfl (stp (fun k => laws_eqWordS.l0.eq_2 ..) (ifn (by simp) (sm _))))
  | succ n ih =>
    intro l h
    have hl : l.length * 40 ≤ 140737488351232 := h.1
    refine stp (fun k => laws_eqWordS.f.eq_2 ..) (ifp rfl ?_)
    refine same l (fun i k => laws_eqWordS.l0 k l l i) ?_ ?_
    · exact stp (fun k => laws_eqWordS.l0.eq_2 ..) (ifn (by omega) (sm _))
    · intro i x hx hk
      have hi : i < l.length := (List.getElem?_eq_some_iff.1 hx).1
      have hw := h.2 x (List.mem_of_getElem? hx)
      refine stp (fun k => laws_eqWordS.l0.eq_2 ..) (ifp (by omega) (ifp (by omega) (ifp (by omega) ?_)))
      rw [show rd_T40 l (i : Int) = x from getD_some hx, up (by omega) (by omega : (i : Int) < (l.length : Int)) (by omega)]
      exact bnd (a := true) (ifp rfl (ifp rfl (bnd (ih x.f2 hw.2.2) (ifp rfl (sm _))))) (ifp rfl hk)
theorem eq_self (n : Nat) (a b : Int) (l : List S40) (h : HL n l) : Ev (fun k => laws_eqWord.f k a b l a b l) true := ifp rfl (ifp rfl (bnd (eqS_self n l h) (ifp rfl (sm _))))
mutual
/-- how many nodes a tree has -/
def nodes : S40 → Nat
  | ⟨_, _, l⟩ => 1 + nodess l
def nodess : List S40 → Nat
  | [] => 0
  | x :: r => nodes x + nodess r
end
theorem nodes_pos (x : S40) : 1 ≤ nodes x := by
  obtain ⟨a, b, l⟩ := x
  rw [nodes]
  omega
theorem eta (x : S40) : (⟨x.f0, x.f1, x.f2⟩ : S40) = x := by
  obtain ⟨a, b, l⟩ := x
  rfl
theorem left_is (n : Nat) : ∀ (a b : Int) (l : List S40), HL n l → ∀ left : Int, 0 ≤ left → left ≤ 1048576 → ∃ v : Int, -1 ≤ v ∧ v ≤ 1048576 ∧ Ev (fun k => spec_l05Left.f k a b l left) v ∧ (0 ≤ v ↔ ((nodes ⟨a, b, l⟩ : Nat) : Int) ≤ left) ∧ (0 ≤ v → v = left - ((nodes ⟨a, b, l⟩ : Nat) : Int)) := by
  induction n with
  | zero =>
    intro a b l h left h0 h1
    cases l with
    | cons x r => exact (h.2 x List.mem_cons_self).elim
    | nil =>
      refine ⟨left - 1, by omega, by omega, stp (fun k => spec_l05Left.f.eq_2 ..) ?_, ?_, ?_⟩
      · rw [w64 (by omega) (by omega)]
        exact stp (fun k => spec_l05Left.l0.eq_2 ..) (ifn (by simp) (sm _))
      · rw [nodes, nodess]
        omega
      · rw [nodes, nodess]
        omega
  | succ n ih =>
    intro a b l h left h0 h1
    have hl : l.length * 40 ≤ 140737488351232 := h.1
    have key : ∀ (d i : Nat) (lf : Int), i + d = l.length → -1 ≤ lf → lf ≤ 1048576 → ∃ v : Int, -1 ≤ v ∧ v ≤ 1048576 ∧ Ev (fun k => spec_l05Left.l0 k lf (i : Int) a b l) v ∧ (0 ≤ v ↔ ((nodess (l.drop i) : Nat) : Int) ≤ lf) ∧ (0 ≤ v → v = lf - ((nodess (l.drop i) : Nat) : Int)) := by
      intro d
      induction d with
      | zero =>
        intro i lf hi hf0 hf1
        obtain rfl : i = l.length := by omega
        refine ⟨lf, hf0, hf1, stp (fun k => spec_l05Left.l0.eq_2 ..) (ifn (by omega) (sm _)), ?_, ?_⟩
        · rw [List.drop_length, nodess]
          omega
        · rw [List.drop_length, nodess]
          omega
      | succ d ihd =>
        intro i lf hi hf0 hf1
        have hil : i < l.length := by omega
        have hx : l[i]? = some l[i] := List.getElem?_eq_getElem hil
        have hw := h.2 l[i] (List.getElem_mem hil)
        rw [List.drop_eq_getElem_cons hil, nodess]
        have hp := nodes_pos l[i]
        by_cases hneg : lf ≥ 0
        · obtain ⟨v, hv0, hv1, hv, hv2, hv3⟩ := ih l[i].f0 l[i].f1 l[i].f2 hw.2.2 lf hneg hf1
          obtain ⟨u, hu0, hu1, hu, hu2, hu3⟩ := ihd (i + 1) v (by omega) hv0 hv1
          rw [eta l[i]] at hv2 hv3
          refine ⟨u, hu0, hu1, stp (fun k => spec_l05Left.l0.eq_2 ..) (ifp (by omega) (ifp hneg (ifp (by omega) ?_))), ?_, ?_⟩
          · rw [show rd_T40 l (i : Int) = l[i] from getD_some hx, up (by omega) (by omega : (i : Int) < (l.length : Int)) (by omega)]
            rw [show ((i + 1 : Nat) : Int) = (i : Int) + 1 by omega] at hu
            exact bnd hv hu
          · omega
          · omega
        · refine ⟨lf, hf0, hf1, stp (fun k => spec_l05Left.l0.eq_2 ..) (ifp (by omega) (ifn hneg (sm _))), ?_, ?_⟩
          · omega
          · omega
    obtain ⟨v, hv0, hv1, hev, h2, h3⟩ := key l.length 0 (left - 1) (by omega) (by omega) (by omega)
    refine ⟨v, hv0, hv1, stp (fun k => spec_l05Left.f.eq_2 ..) ?_, ?_, ?_⟩
    · rw [w64 (by omega) (by omega)]
      exact hev
    · rw [List.drop_zero] at h2
      rw [nodes]
      omega
    · rw [List.drop_zero] at h3
      rw [nodes]
      omega
mutual
/-- a word's nodes are right, their count aside -/
def rightB (bits : Int) : S40 → Bool
  | ⟨kind, n, kids⟩ => match okW bits kind n with
    | none => false
    | some (m, ok) => ok && (((kids.length : Int) == m) && rights bits kids)
def rights (bits : Int) : List S40 → Bool
  | [] => true
  | x :: r => rightB bits x && rights bits r
end
mutual
theorem count_is (bits : Int) : ∀ (y : S40) (c : Int), 0 ≤ c → c ≤ 9 → (countW bits y c).1 = (rightB bits y && decide (c + ((nodes y : Nat) : Int) ≤ 9)) ∧ ((countW bits y c).1 = true → (countW bits y c).2 = c + ((nodes y : Nat) : Int))
  | ⟨kind, n, kids⟩, c, h0, h1 => by
    rw [countW, rightB, nodes, w64 (x := c + 1) (by omega) (by omega)]
    cases hk : okW bits kind n with
    | none => exact ⟨by simp, by simp⟩
    | some q =>
      obtain ⟨m, ok⟩ := q
      simp only
      by_cases t1 : c + 1 > 9
      · rw [decide_eq_true t1, Bool.true_or, if_pos rfl]
        have : ¬ (c + ((1 + nodess kids : Nat) : Int) ≤ 9) := by omega
        rw [decide_eq_false this]
        exact ⟨by simp, by simp⟩
      · have hc := counts_is bits kids (c + 1) (by omega) (by omega)
        rw [decide_eq_false t1, Bool.false_or]
        cases ok with
        | false => exact ⟨by simp, by simp⟩
        | true =>
          cases hm : ((kids.length : Int) == m) with
          | false => exact ⟨by simp, by simp⟩
          | true =>
            simp only [Bool.not_true, Bool.or_self, Bool.true_and, Bool.false_eq_true, if_false]
            rw [show c + ((1 + nodess kids : Nat) : Int) = c + 1 + ((nodess kids : Nat) : Int) by omega]
            exact hc
theorem counts_is (bits : Int) : ∀ (l : List S40) (c : Int), 0 ≤ c → c ≤ 9 → (countWs bits l c).1 = (rights bits l && decide (c + ((nodess l : Nat) : Int) ≤ 9)) ∧ ((countWs bits l c).1 = true → (countWs bits l c).2 = c + ((nodess l : Nat) : Int))
  | [], c, h0, h1 => by
    rw [countWs, rights, nodess, decide_eq_true (by omega)]
    exact ⟨rfl, fun _ => by simp⟩
  | x :: r, c, h0, h1 => by
    have hx := count_is bits x c h0 h1
    rw [countWs, rights, nodess]
    generalize countW bits x c = q at hx
    obtain ⟨q1, q2⟩ := q
    simp only at hx
    obtain ⟨e1, e2⟩ := hx
    cases q1 with
    | false =>
      refine ⟨?_, by simp⟩
      simp only
      cases hb : rightB bits x with
      | false => simp
      | true =>
        rw [hb, Bool.true_and] at e1
        have := of_decide_eq_false e1.symm
        rw [decide_eq_false (by omega)]
        simp
    | true =>
      have e3 := e2 rfl
      subst e3
      have e4 := Bool.and_eq_true_iff.1 e1.symm
      have e5 := of_decide_eq_true e4.2
      have hr := counts_is bits r (c + ((nodes x : Nat) : Int)) (by omega) e5
      rw [e4.1, Bool.true_and]
      rw [show c + ((nodes x + nodess r : Nat) : Int) = c + ((nodes x : Nat) : Int) + ((nodess r : Nat) : Int) by omega]
      exact hr
end
theorem in_is (a lo hi : Int) : spec_l01In.f a lo hi = some (decide (lo ≤ a) && decide (a ≤ hi)) := by
  unfold spec_l01In.f
  by_cases h : a ≥ lo
  · rw [if_pos h, decide_eq_true (show lo ≤ a from h), Bool.true_and]
  · rw [if_neg h, decide_eq_false (show ¬ lo ≤ a from h), Bool.false_and]
theorem shl_is (bits : Int) (h1 : 1 ≤ bits) (h2 : bits ≤ 6) : wrap64 ((shl .i64 1 (IntKind.u64.wrap bits)) - 1) = wrap64 (wrap64 (2 ^ bits.toNat) - 1) := by
  obtain rfl | rfl | rfl | rfl | rfl | rfl : bits = 1 ∨ bits = 2 ∨ bits = 3 ∨ bits = 4 ∨ bits = 5 ∨ bits = 6 := by omega
  all_goals kernel_rfl
theorem quo_is (bits n : Int) (h1 : 1 ≤ bits) (h2 : bits ≤ 6) : (n < wrap64 ((12 : Int) / bits)) ↔ (n ≤ wrap64 ((12 : Int) / bits - 1)) := by
  obtain rfl | rfl | rfl | rfl | rfl | rfl : bits = 1 ∨ bits = 2 ∨ bits = 3 ∨ bits = 4 ∨ bits = 5 ∨ bits = 6 := by omega
  all_goals (simp [wrap64]; omega)
theorem len_zero (bits : Int) (l : List S40) : (((l.length : Int) == 0) && rights bits l) = ((l.length : Int) == 0) := by
  cases l with
  | nil => simp [rights]
  | cons x r =>
    rw [beq_false_of_ne (by simp; omega)]
    rfl
theorem jright_is (bits : Int) (a b : Int) (l : List S40) (hl : l.length * 40 ≤ 140737488351232) (t : Bool) (ih : ∀ x ∈ l, Ev (fun k => spec_l05Right.f k x.f0 x.f1 x.f2 bits) (rightB bits x)) : Ev (fun k => spec_l05Right.j0 k bits t a b l) (t && ((b == 0) && (((l.length : Int) == 2) && rights bits l))) := by
  refine stp (fun k => spec_l05Right.j0.eq_2 ..) ?_
  cases t with
  | false => exact ifn (by simp) (sm _)
  | true =>
    refine ifp rfl ?_
    by_cases hb : b = 0
    · subst hb
      refine ifp rfl ?_
      by_cases h2 : (l.length : Int) = 2
      · refine ifp h2 (ifp (by omega) ?_)
        obtain ⟨x, y, rfl⟩ : ∃ x y, l = [x, y] := by
          cases l with
          | nil => simp at h2
          | cons x r =>
            cases r with
            | nil => simp at h2
            | cons y r =>
              cases r with
              | nil => exact ⟨x, y, rfl⟩
              | cons z r => simp at h2; omega
        refine bnd (ih x (by simp)) ?_
        rw [rights, rights, rights, Bool.and_true]
        cases hx : rightB bits x with
        | false => exact ifn (by simp) (sm _)
        | true =>
          refine ifp rfl (ifp (by simp) ?_)
          exact bnd (ih y (by simp)) (sm _)
      · rw [beq_false_of_ne h2]
        exact ifn h2 (sm _)
    · rw [beq_false_of_ne hb]
      exact ifn hb (sm _)
theorem rstep_is (bits : Int) (hb1 : 1 ≤ bits) (hb2 : bits ≤ 6) (a b : Int) (l : List S40) (hl : l.length * 40 ≤ 140737488351232) (ih : ∀ x ∈ l, Ev (fun k => spec_l05Right.f k x.f0 x.f1 x.f2 bits) (rightB bits x)) : Ev (fun k => spec_l05Right.f k a b l bits) (rightB bits ⟨a, b, l⟩) := by
  refine stp (fun k => spec_l05Right.f.eq_2 ..) ?_
  by_cases k1 : a = 1
  · subst k1
    refine ifp rfl (ifp (by rw [u64_in (by omega) (by omega)]; omega) ?_)
    rw [shl_is bits hb1 hb2, rightB, okW, if_pos rfl]
    refine bnd0 (in_is _ _ _) ?_
    cases h : (decide (0 ≤ b) && decide (b ≤ wrap64 (wrap64 (2 ^ bits.toNat) - 1))) with
    | false => exact ifn (by simp) (sm _)
    | true =>
      show Ev _ (true && (((l.length : Int) == 0) && rights bits l))
      rw [len_zero, Bool.true_and]
      exact ifp rfl (sm _)
  · refine ifn k1 ?_
    by_cases k2 : a = 2
    · subst k2
      refine ifp rfl ?_
      rw [rightB, okW, if_neg (show ¬ (2 : Int) = 1 by decide), if_pos rfl]
      show Ev _ ((decide (0 ≤ b) && decide (b ≤ wrap64 ((12 : Int) / bits - 1))) && (((l.length : Int) == 0) && rights bits l))
      by_cases h0 : b ≥ 0
      · rw [decide_eq_true (show 0 ≤ b from h0), Bool.true_and]
        refine ifp h0 (ifn (by omega) ?_)
        by_cases h2 : b ≤ wrap64 ((12 : Int) / bits - 1)
        · rw [decide_eq_true h2, Bool.true_and, len_zero]
          exact ifp ((quo_is bits b hb1 hb2).2 h2) (sm _)
        · rw [decide_eq_false h2, Bool.false_and]
          exact ifn (fun h => h2 ((quo_is bits b hb1 hb2).1 h)) (sm _)
      · rw [decide_eq_false (show ¬ 0 ≤ b from h0), Bool.false_and, Bool.false_and]
        exact ifn h0 (sm _)
    · refine ifn k2 ?_
      by_cases k3 : a = 3
      · subst k3
        rw [rightB, okW, if_neg (by decide), if_neg (by decide), if_pos rfl]
        exact ifp rfl (jright_is bits 3 b l hl _ ih)
      · refine ifn k3 ?_
        by_cases k4 : a = 4
        · subst k4
          rw [rightB, okW, if_neg (by decide), if_neg (by decide), if_neg (by decide), if_pos rfl]
          exact ifp rfl (jright_is bits 4 b l hl _ ih)
        · refine ifn k4 ?_
          have := jright_is bits a b l hl (a == 5) ih
          by_cases k5 : a = 5
          · subst k5
            rw [rightB, okW, if_neg (by decide), if_neg (by decide), if_neg (by decide), if_neg (by decide), if_pos rfl]
            exact this
          · rw [beq_false_of_ne k5] at this ⊢
            rw [rightB, okW, if_neg k1, if_neg k2, if_neg k3, if_neg k4, if_neg k5]
            exact this
theorem right_is (bits : Int) (hb1 : 1 ≤ bits) (hb2 : bits ≤ 6) (n : Nat) : ∀ (a b : Int) (l : List S40), HL n l → Ev (fun k => spec_l05Right.f k a b l bits) (rightB bits ⟨a, b, l⟩) := by
  induction n with
  | zero =>
    intro a b l h
    exact rstep_is bits hb1 hb2 a b l h.1 fun x hx => (h.2 x hx).elim
  | succ n ih =>
    intro a b l h
    refine rstep_is bits hb1 hb2 a b l h.1 fun x hx => ?_
    have := ih x.f0 x.f1 x.f2 (h.2 x hx).2.2
    rwa [eta x] at this
/-- what both answer -/
def wordB (a b : Int) (l : List S40) (bits : Int) : Bool := (decide (1 ≤ bits) && decide (bits ≤ 6)) && (rightB bits ⟨a, b, l⟩ && decide (((nodes ⟨a, b, l⟩ : Nat) : Int) ≤ 9))
theorem wordOK_same (n : Nat) (a b : Int) (l : List S40) (bits : Int) (h0 : Reads.WFI a) (h1 : Reads.WFI b) (h : HL n l) : Ev (fun k => spec_WordOK.f k a b l bits) (wordB a b l bits) := by
  unfold wordB
  refine bnd0 (in_is bits 1 6) ?_
  cases hb : (decide (1 ≤ bits) && decide (bits ≤ 6)) with
  | false => exact ifn (by simp) (sm _)
  | true =>
    have hb' := Bool.and_eq_true_iff.1 hb
    have hb1 := of_decide_eq_true hb'.1
    have hb2 := of_decide_eq_true hb'.2
    refine ifp rfl ?_
    obtain ⟨v, _, _, hv, e1, _⟩ := left_is n a b l h 9 (by omega) (by omega)
    refine bnd hv ?_
    by_cases hs : v ≥ 0
    · rw [decide_eq_true (e1.1 hs), Bool.and_true, Bool.true_and]
      exact ifp hs (bnd (right_is bits hb1 hb2 n a b l h) (sm _))
    · rw [decide_eq_false (fun x => hs (e1.2 x)), Bool.and_false, Bool.true_and]
      exact ifn hs (sm _)
theorem implOK_is (a b : Int) (l : List S40) (bits : Int) : impl_WordOK.f a b l bits = some (wordB a b l bits) := by
  unfold impl_WordOK.f impl_isWord.f wordB
  cases hb : (decide (1 ≤ bits) && decide (bits ≤ 6)) with
  | false => rfl
  | true =>
    rw [if_pos rfl, (count_is bits ⟨a, b, l⟩ 0 (by omega) (by omega)).1]
    simp

theorem FnExactWordOK : laws_FnExactWordOK.Pure := by
  intro a0 a1 l bits h0 h1 hl hb
  refine Ev.rounds ?_
  obtain ⟨v, hv⟩ := sz_is a0 a1 l hl
  by_cases hs : v < 0
  · exact bnd hv (ifp hs (sm _))
  · refine bnd hv (ifn hs ?_)
    obtain ⟨n, hn⟩ := wl_of hl
    have hL := HL_cv n l hn
    have hto := to_is a0 a1 l hl
    have hok := wordOK_same n a0 a1 (l.map cv) bits h0 h1 hL
    refine bnd hto (bnd hok (bnd hto ?_))
    obtain ⟨r, hr⟩ : ∃ r, impl_WordOK.f a0 a1 (l.map cv) bits = some r := ⟨_, implOK_is a0 a1 (l.map cv) bits⟩
    have hr2 := (implOK_is a0 a1 (l.map cv) bits)
    refine bnd0 hr2 (ifn (by simp) (bnd hto (bnd (eq_self n _ _ _ hL) (ifp rfl (sm _)))))

end Go.Proofs.Ytdmeonkkbihbhaa.Pure
