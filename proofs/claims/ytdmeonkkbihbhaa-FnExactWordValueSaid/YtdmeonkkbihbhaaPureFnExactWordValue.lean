/- FnExactWordValue: the pure statement behind the law: the program comes to the same value of a word as the reference. No conditions. -/
import Derived.Test.YtdmeonkkbihbhaaDefFnExactWordValue
import Derived.Test.YtdmeonkkbihbhaaPlain
set_option linter.unusedVariables false
set_option linter.unusedSimpArgs false
namespace Go.Proofs.Ytdmeonkkbihbhaa.Pure
open Go.RowKit Go.Proofs.Ytdmeonkkbihbhaa Go.Proofs.Ytdmeonkkbihbhaa.PFnExactWordValue Go.Proofs.YtdmeonkkbihbhaaW.PrintWords Go.Proofs.YtdmeonkkbihbhaaW.PrintLast Go.Proofs.Ytdmeonkkbihbhaa.Plain

/-! a tree of type Word: its bounds, the program's own copy of it, and the functions sz, to and eq -/
theorem u_num {x : Int} (h : Reads.WFI x) : -9223372036854775808 ≤ x ∧ x ≤ 9223372036854775807 := h
mutual
def cv : S35 → S40
  | ⟨a, b, l⟩ => ⟨a, b, cvs l⟩
def cvs : List S35 → List S40
  | [] => []
  | x :: r => cv x :: cvs r
end
theorem cvs_map (l : List S35) : cvs l = l.map cv := by
  induction l with
  | nil => rfl
  | cons x r ih => rw [cvs, List.map_cons, ih]
theorem cv_0 (x : S35) : (cv x).f0 = x.f0 := by
  obtain ⟨a, b, l⟩ := x
  rw [cv]
theorem cv_1 (x : S35) : (cv x).f1 = x.f1 := by
  obtain ⟨a, b, l⟩ := x
  rw [cv]
theorem cv_2 (x : S35) : (cv x).f2 = x.f2.map cv := by
  obtain ⟨a, b, l⟩ := x
  rw [cv]
  exact cvs_map l
theorem cv_mk (x : S35) : (⟨x.f0, x.f1, x.f2.map cv⟩ : S40) = cv x := by
  obtain ⟨a, b, l⟩ := x
  rw [cv, cvs_map]
abbrev WL (n : Nat) (l : List S35) : Prop := Reads.WFL 40 (wf35N n) l
theorem wl_le {n m : Nat} (h : n ≤ m) : ∀ x, wf35N n x → wf35N m x := by
  induction n generalizing m with
  | zero => exact fun x hx => hx.elim
  | succ n ih =>
    intro x hx
    cases m with
    | zero => omega
    | succ m => exact ⟨hx.1, hx.2.1, hx.2.2.1, fun y hy => ih (by omega) y (hx.2.2.2 y hy)⟩
theorem wl_of {l : List S35} (h : Reads.WFL 40 wf35 l) : ∃ n, WL n l := by
  have : ∀ l : List S35, (∀ x ∈ l, wf35 x) → ∃ n, ∀ x ∈ l, wf35N n x := by
    intro l
    induction l with
    | nil => exact fun _ => ⟨0, fun x hx => by cases hx⟩
    | cons a r ih =>
      intro h
      obtain ⟨n, hn⟩ := ih fun x hx => h x (List.mem_cons_of_mem _ hx)
      obtain ⟨m, hm⟩ := h a List.mem_cons_self
      refine ⟨n + m, fun x hx => ?_⟩
      rcases List.mem_cons.1 hx with rfl | hx
      · exact wl_le (by omega) _ hm
      · exact wl_le (by omega) _ (hn x hx)
  obtain ⟨n, hn⟩ := this l h.2
  exact ⟨n, h.1, hn⟩
theorem szS_is (n : Nat) : ∀ l, WL n l → ∀ left : Int, 0 ≤ left → left ≤ 1048576 → ∃ v : Int, -1 ≤ v ∧ v ≤ 1048576 ∧ Ev (fun k => laws_szWordS.f k l left) v := by
  induction n with
  | zero =>
    intro l h left h0 h1
    cases l with
    | cons x r => exact (h.2 x List.mem_cons_self).elim
    | nil =>
      refine ⟨left, by omega, h1, stp (fun k => laws_szWordS.f.eq_2 ..) ?_⟩
      rw [show wrap64 (left - (([] : List S35).length : Int)) = left by simp; exact w64 (by omega) (by omega)]
      exact ifn (by omega) (stp (fun k => laws_szWordS.l0.eq_2 ..) (ifn (by simp) (sm _)))
  | succ n ih =>
    intro l h left h0 h1
    have hl : l.length * 40 ≤ 140737488351232 := h.1
    by_cases hs : left - (l.length : Int) < 0
    · exact ⟨-1, by omega, by omega, stp (fun k => laws_szWordS.f.eq_2 ..) (ifp (by rw [w64 (by omega) (by omega)]; exact hs) (sm _))⟩
    · have key : ∀ (d i : Nat) (lf : Int), i + d = l.length → 0 ≤ lf → lf ≤ 1048576 → ∃ v : Int, -1 ≤ v ∧ v ≤ 1048576 ∧ Ev (fun k => laws_szWordS.l0 k l lf (i : Int)) v := by
        intro d
        induction d with
        | zero =>
          intro i lf hi hf0 hf1
          exact ⟨lf, by omega, hf1, stp (fun k => laws_szWordS.l0.eq_2 ..) (ifn (by omega) (sm _))⟩
        | succ d ihd =>
          intro i lf hi hf0 hf1
          have hil : i < l.length := by omega
          have hx : l[i]? = some l[i] := List.getElem?_eq_getElem hil
          have hw := h.2 l[i] (List.getElem_mem hil)
          obtain ⟨v, hv0, hv1, hv⟩ := ih l[i].f2 hw.2.2 lf hf0 hf1
          by_cases hn : v < 0
          · refine ⟨-1, by omega, by omega, stp (fun k => laws_szWordS.l0.eq_2 ..) (ifp (by omega) (ifp (by omega) ?_))⟩
            rw [show rd_T35 l (i : Int) = l[i] from getD_some hx]
            exact bnd (a := -1) (bnd hv (ifp hn (sm _))) (ifp (by omega) (sm _))
          · obtain ⟨u, hu0, hu1, hu⟩ := ihd (i + 1) v (by omega) (by omega) hv1
            rw [show ((i + 1 : Nat) : Int) = (i : Int) + 1 by omega] at hu
            refine ⟨u, hu0, hu1, stp (fun k => laws_szWordS.l0.eq_2 ..) (ifp (by omega) (ifp (by omega) ?_))⟩
            rw [show rd_T35 l (i : Int) = l[i] from getD_some hx, up (by omega) (by omega : (i : Int) < (l.length : Int)) (by omega)]
            exact bnd (a := v) (bnd hv (ifn hn (sm _))) (ifn hn hu)
      obtain ⟨v, hv0, hv1, hev⟩ := key l.length 0 (left - (l.length : Int)) (by omega) (by omega) (by omega)
      refine ⟨v, hv0, hv1, stp (fun k => laws_szWordS.f.eq_2 ..) (ifn (by rw [w64 (by omega) (by omega)]; exact hs) ?_)⟩
      rw [w64 (by omega) (by omega)]
      exact hev
theorem sz_is (a b : Int) (l : List S35) (h : Reads.WFL 40 wf35 l) : ∃ v : Int, Ev (fun k => laws_szWord.f k a b l 1048576) v := by
  obtain ⟨n, hn⟩ := wl_of h
  obtain ⟨v, _, _, hv⟩ := szS_is n l hn 1048576 (by omega) (by omega)
  by_cases hs : v < 0
  · exact ⟨-1, bnd hv (ifp hs (sm _))⟩
  · exact ⟨v, bnd hv (ifn hs (sm _))⟩
theorem toS_is (n : Nat) : ∀ l, WL n l → Ev (fun k => laws_toWordS.f k l) (l.map cv) := by
  induction n with
  | zero =>
    intro l h
    cases l with
    | cons x r => exact (h.2 x List.mem_cons_self).elim
    | nil => exact stp (fun k => laws_toWordS.f.eq_2 ..) (ifp (by simp) (ifp (by simp) (stp (fun k => laws_toWordS.l0.eq_2 ..) (ifn (by simp) (sm _)))))
  | succ n ih =>
    intro l h
    have hl : l.length * 40 ≤ 140737488351232 := h.1
    refine stp (fun k => laws_toWordS.f.eq_2 ..) (ifp (by omega) (ifp (by omega) ?_))
    refine copy cv l (fun i out k => laws_toWordS.l0 k l out i) ?_ ?_ (List.replicate (l.length : Int).toNat z40) (by simp)
    · intro out
      exact stp (fun k => laws_toWordS.l0.eq_2 ..) (ifn (by omega) (sm _))
    · intro i out r x hx hlen hk
      have hi : i < l.length := (List.getElem?_eq_some_iff.1 hx).1
      have hw := h.2 x (List.mem_of_getElem? hx)
      refine stp (fun k => laws_toWordS.l0.eq_2 ..) (ifp (by omega) (ifp (by omega) ?_))
      rw [show rd_T35 l (i : Int) = x from getD_some hx, up (by omega) (by omega : (i : Int) < (l.length : Int)) (by omega), Int.toNat_natCast]
      refine bnd (a := (x.f0, x.f1, x.f2.map cv)) (bnd (ih x.f2 hw.2.2) (sm _)) (ifp (by omega) ?_)
      show Ev (fun k => laws_toWordS.l0 k l (out.set i ⟨x.f0, x.f1, x.f2.map cv⟩) ((i : Int) + 1)) r
      rw [cv_mk]
      exact hk
theorem to_is (a b : Int) (l : List S35) (h : Reads.WFL 40 wf35 l) : Ev (fun k => laws_toWord.f k a b l) (a, b, l.map cv) := by
  obtain ⟨n, hn⟩ := wl_of h
  exact bnd (toS_is n l hn) (sm _)
/-- a tree of the program's kind within its bounds -/
def HN : Nat → S40 → Prop
  | 0, _ => False
  | n + 1, x => Reads.WFI x.f0 ∧ (Reads.WFI x.f1 ∧ Reads.WFL 40 (HN n) x.f2)
abbrev HL (n : Nat) (l : List S40) : Prop := Reads.WFL 40 (HN n) l
theorem HN_cv (n : Nat) : ∀ x, wf35N n x → HN n (cv x) := by
  induction n with
  | zero => exact fun x h => h.elim
  | succ n ih =>
    intro x h
    refine ⟨by rw [cv_0]; exact h.1, by rw [cv_1]; exact h.2.1, ?_⟩
    rw [cv_2]
    refine ⟨by simpa using h.2.2.1, fun y hy => ?_⟩
    obtain ⟨z, hz, rfl⟩ := List.mem_map.1 hy
    exact ih z (h.2.2.2 z hz)
theorem HL_cv (n : Nat) (l : List S35) (h : WL n l) : HL n (l.map cv) := by
  refine ⟨by simpa using h.1, fun y hy => ?_⟩
  obtain ⟨z, hz, rfl⟩ := List.mem_map.1 hy
  exact HN_cv n z (h.2 z hz)
theorem eqS_self (n : Nat) : ∀ l, HL n l → Ev (fun k => laws_eqWordS.f k l l) true := by
  induction n with
  | zero =>
    intro l h
    cases l with
    | cons x r => exact (h.2 x List.mem_cons_self).elim
    | nil => exact stp (fun k => laws_eqWordS.f.eq_2 ..) (ifp rfl (stp (fun k => laws_eqWordS.l0.eq_2 ..) (ifn (by simp) (sm _))))
  | succ n ih =>
    intro l h
    have hl : l.length * 40 ≤ 140737488351232 := h.1
    refine stp (fun k => laws_eqWordS.f.eq_2 ..) (ifp rfl ?_)
    refine same l (fun i k => laws_eqWordS.l0 k l l i) ?_ ?_
    · exact stp (fun k => laws_eqWordS.l0.eq_2 ..) (ifn (by omega) (sm _))
    · intro i x hx hk
      have hi : i < l.length := (List.getElem?_eq_some_iff.1 hx).1
      have hw := h.2 x (List.mem_of_getElem? hx)
      refine stp (fun k => laws_eqWordS.l0.eq_2 ..) (ifp (by omega) (ifp (by omega) (ifp (by omega) ?_)))
      rw [show rd_T40 l (i : Int) = x from getD_some hx, up (by omega) (by omega : (i : Int) < (l.length : Int)) (by omega)]
      exact bnd (a := true) (ifp rfl (ifp rfl (bnd (ih x.f2 hw.2.2) (ifp rfl (sm _))))) (ifp rfl hk)
theorem eq_self (n : Nat) (a b : Int) (l : List S40) (h : HL n l) : Ev (fun k => laws_eqWord.f k a b l a b l) true := ifp rfl (ifp rfl (bnd (eqS_self n l h) (ifp rfl (sm _))))
mutual
/-- how many nodes a tree has -/
def nodes : S40 → Nat
  | ⟨_, _, l⟩ => 1 + nodess l
def nodess : List S40 → Nat
  | [] => 0
  | x :: r => nodes x + nodess r
end
theorem nodes_pos (x : S40) : 1 ≤ nodes x := by
  obtain ⟨a, b, l⟩ := x
  rw [nodes]
  omega
theorem eta (x : S40) : (⟨x.f0, x.f1, x.f2⟩ : S40) = x := by
  obtain ⟨a, b, l⟩ := x
  rfl
theorem left_is (n : Nat) : ∀ (a b : Int) (l : List S40), HL n l → ∀ left : Int, 0 ≤ left → left ≤ 1048576 → ∃ v : Int, -1 ≤ v ∧ v ≤ 1048576 ∧ Ev (fun k => spec_l05Left.f k a b l left) v ∧ (0 ≤ v ↔ ((nodes ⟨a, b, l⟩ : Nat) : Int) ≤ left) ∧ (0 ≤ v → v = left - ((nodes ⟨a, b, l⟩ : Nat) : Int)) := by
  induction n with
  | zero =>
    intro a b l h left h0 h1
    cases l with
    | cons x r => exact (h.2 x List.mem_cons_self).elim
    | nil =>
      refine ⟨left - 1, by omega, by omega, stp (fun k => spec_l05Left.f.eq_2 ..) ?_, ?_, ?_⟩
      · rw [w64 (by omega) (by omega)]
        exact stp (fun k => spec_l05Left.l0.eq_2 ..) (ifn (by simp) (sm _))
      · rw [nodes, nodess]
        omega
      · rw [nodes, nodess]
        omega
  | succ n ih =>
    intro a b l h left h0 h1
    have hl : l.length * 40 ≤ 140737488351232 := h.1
    have key : ∀ (d i : Nat) (lf : Int), i + d = l.length → -1 ≤ lf → lf ≤ 1048576 → ∃ v : Int, -1 ≤ v ∧ v ≤ 1048576 ∧ Ev (fun k => spec_l05Left.l0 k lf (i : Int) a b l) v ∧ (0 ≤ v ↔ ((nodess (l.drop i) : Nat) : Int) ≤ lf) ∧ (0 ≤ v → v = lf - ((nodess (l.drop i) : Nat) : Int)) := by
      intro d
      induction d with
      | zero =>
        intro i lf hi hf0 hf1
        obtain rfl : i = l.length := by omega
        refine ⟨lf, hf0, hf1, stp (fun k => spec_l05Left.l0.eq_2 ..) (ifn (by omega) (sm _)), ?_, ?_⟩
        · rw [List.drop_length, nodess]
          omega
        · rw [List.drop_length, nodess]
          omega
      | succ d ihd =>
        intro i lf hi hf0 hf1
        have hil : i < l.length := by omega
        have hx : l[i]? = some l[i] := List.getElem?_eq_getElem hil
        have hw := h.2 l[i] (List.getElem_mem hil)
        rw [List.drop_eq_getElem_cons hil, nodess]
        have hp := nodes_pos l[i]
        by_cases hneg : lf ≥ 0
        · obtain ⟨v, hv0, hv1, hv, hv2, hv3⟩ := ih l[i].f0 l[i].f1 l[i].f2 hw.2.2 lf hneg hf1
          obtain ⟨u, hu0, hu1, hu, hu2, hu3⟩ := ihd (i + 1) v (by omega) hv0 hv1
          rw [eta l[i]] at hv2 hv3
          refine ⟨u, hu0, hu1, stp (fun k => spec_l05Left.l0.eq_2 ..) (ifp (by omega) (ifp hneg (ifp (by omega) ?_))), ?_, ?_⟩
          · rw [show rd_T40 l (i : Int) = l[i] from getD_some hx, up (by omega) (by omega : (i : Int) < (l.length : Int)) (by omega)]
            rw [show ((i + 1 : Nat) : Int) = (i : Int) + 1 by omega] at hu
            exact bnd hv hu
          · omega
          · omega
        · refine ⟨lf, hf0, hf1, stp (fun k => spec_l05Left.l0.eq_2 ..) (ifp (by omega) (ifn hneg (sm _))), ?_, ?_⟩
          · omega
          · omega
    obtain ⟨v, hv0, hv1, hev, h2, h3⟩ := key l.length 0 (left - 1) (by omega) (by omega) (by omega)
    refine ⟨v, hv0, hv1, stp (fun k => spec_l05Left.f.eq_2 ..) ?_, ?_, ?_⟩
    · rw [w64 (by omega) (by omega)]
      exact hev
    · rw [List.drop_zero] at h2
      rw [nodes]
      omega
    · rw [List.drop_zero] at h3
      rw [nodes]
      omega
mutual
/-- a word's nodes are right, their count aside -/
def rightB (bits : Int) : S40 → Bool
  | ⟨kind, n, kids⟩ => match okW bits kind n with
    | none => false
    | some (m, ok) => ok && (((kids.length : Int) == m) && rights bits kids)
def rights (bits : Int) : List S40 → Bool
  | [] => true
  | x :: r => rightB bits x && rights bits r
end
mutual
theorem count_is (bits : Int) : ∀ (y : S40) (c : Int), 0 ≤ c → c ≤ 9 → (countW bits y c).1 = (rightB bits y && decide (c + ((nodes y : Nat) : Int) ≤ 9)) ∧ ((countW bits y c).1 = true → (countW bits y c).2 = c + ((nodes y : Nat) : Int))
  | ⟨kind, n, kids⟩, c, h0, h1 => by
    rw [countW, rightB, nodes, w64 (x := c + 1) (by omega) (by omega)]
    cases hk : okW bits kind n with
    | none => exact ⟨by simp, by simp⟩
    | some q =>
      obtain ⟨m, ok⟩ := q
      simp only
      by_cases t1 : c + 1 > 9
      · rw [decide_eq_true t1, Bool.true_or, if_pos rfl]
        have : ¬ (c + ((1 + nodess kids : Nat) : Int) ≤ 9) := by omega
        rw [decide_eq_false this]
        exact ⟨by simp, by simp⟩
      · have hc := counts_is bits kids (c + 1) (by omega) (by omega)
        rw [decide_eq_false t1, Bool.false_or]
        cases ok with
        | false => exact ⟨by simp, by simp⟩
        | true =>
          cases hm : ((kids.length : Int) == m) with
          | false => exact ⟨by simp, by simp⟩
          | true =>
            simp only [Bool.not_true, Bool.or_self, Bool.true_and, Bool.false_eq_true, if_false]
            rw [show c + ((1 + nodess kids : Nat) : Int) = c + 1 + ((nodess kids : Nat) : Int) by omega]
            exact hc
theorem counts_is (bits : Int) : ∀ (l : List S40) (c : Int), 0 ≤ c → c ≤ 9 → (countWs bits l c).1 = (rights bits l && decide (c + ((nodess l : Nat) : Int) ≤ 9)) ∧ ((countWs bits l c).1 = true → (countWs bits l c).2 = c + ((nodess l : Nat) : Int))
  | [], c, h0, h1 => by
    rw [countWs, rights, nodess, decide_eq_true (by omega)]
    exact ⟨rfl, fun _ => by simp⟩
  | x :: r, c, h0, h1 => by
    have hx := count_is bits x c h0 h1
    rw [countWs, rights, nodess]
    generalize countW bits x c = q at hx
    obtain ⟨q1, q2⟩ := q
    simp only at hx
    obtain ⟨e1, e2⟩ := hx
    cases q1 with
    | false =>
      refine ⟨?_, by simp⟩
      simp only
      cases hb : rightB bits x with
      | false => simp
      | true =>
        rw [hb, Bool.true_and] at e1
        have := of_decide_eq_false e1.symm
        rw [decide_eq_false (by omega)]
        simp
    | true =>
      have e3 := e2 rfl
      subst e3
      have e4 := Bool.and_eq_true_iff.1 e1.symm
      have e5 := of_decide_eq_true e4.2
      have hr := counts_is bits r (c + ((nodes x : Nat) : Int)) (by omega) e5
      rw [e4.1, Bool.true_and]
      rw [show c + ((nodes x + nodess r : Nat) : Int) = c + ((nodes x : Nat) : Int) + ((nodess r : Nat) : Int) by omega]
      exact hr
end
theorem in_is (a lo hi : Int) : spec_l01In.f a lo hi = some (decide (lo ≤ a) && decide (a ≤ hi)) := by
  unfold spec_l01In.f
  by_cases h : a ≥ lo
  · rw [if_pos h, decide_eq_true (show lo ≤ a from h), Bool.true_and]
  · rw [if_neg h, decide_eq_false (show ¬ lo ≤ a from h), Bool.false_and]
theorem shl_is (bits : Int) (h1 : 1 ≤ bits) (h2 : bits ≤ 6) : wrap64 ((shl .i64 1 (IntKind.u64.wrap bits)) - 1) = wrap64 (wrap64 (2 ^ bits.toNat) - 1) := by
  obtain rfl | rfl | rfl | rfl | rfl | rfl : bits = 1 ∨ bits = 2 ∨ bits = 3 ∨ bits = 4 ∨ bits = 5 ∨ bits = 6 := by omega
  all_goals kernel_rfl
theorem quo_is (bits n : Int) (h1 : 1 ≤ bits) (h2 : bits ≤ 6) : (n < wrap64 ((12 : Int) / bits)) ↔ (n ≤ wrap64 ((12 : Int) / bits - 1)) := by
  obtain rfl | rfl | rfl | rfl | rfl | rfl : bits = 1 ∨ bits = 2 ∨ bits = 3 ∨ bits = 4 ∨ bits = 5 ∨ bits = 6 := by omega
  all_goals (simp [wrap64]; omega)
theorem len_zero (bits : Int) (l : List S40) : (((l.length : Int) == 0) && rights bits l) = ((l.length : Int) == 0) := by
  cases l with
  | nil => simp [rights]
  | cons x r =>
    rw [beq_false_of_ne (by simp; omega)]
    rfl
theorem jright_is (bits : Int) (a b : Int) (l : List S40) (hl : l.length * 40 ≤ 140737488351232) (t : Bool) (ih : ∀ x ∈ l, Ev (fun k => spec_l05Right.f k x.f0 x.f1 x.f2 bits) (rightB bits x)) : Ev (fun k => spec_l05Right.j0 k bits t a b l) (t && ((b == 0) && (((l.length : Int) == 2) && rights bits l))) := by
  refine stp (fun k => spec_l05Right.j0.eq_2 ..) ?_
  cases t with
  | false => exact ifn (by simp) (sm _)
  | true =>
    refine ifp rfl ?_
    by_cases hb : b = 0
    · subst hb
      refine ifp rfl ?_
      by_cases h2 : (l.length : Int) = 2
      · refine ifp h2 (ifp (by omega) ?_)
        obtain ⟨x, y, rfl⟩ : ∃ x y, l = [x, y] := by
          cases l with
          | nil => simp at h2
          | cons x r =>
            cases r with
            | nil => simp at h2
            | cons y r =>
              cases r with
              | nil => exact ⟨x, y, rfl⟩
              | cons z r => simp at h2; omega
        refine bnd (ih x (by simp)) ?_
        rw [rights, rights, rights, Bool.and_true]
        cases hx : rightB bits x with
        | false => exact ifn (by simp) (sm _)
        | true =>
          refine ifp rfl (ifp (by simp) ?_)
          exact bnd (ih y (by simp)) (sm _)
      · rw [beq_false_of_ne h2]
        exact ifn h2 (sm _)
    · rw [beq_false_of_ne hb]
      exact ifn hb (sm _)
theorem rstep_is (bits : Int) (hb1 : 1 ≤ bits) (hb2 : bits ≤ 6) (a b : Int) (l : List S40) (hl : l.length * 40 ≤ 140737488351232) (ih : ∀ x ∈ l, Ev (fun k => spec_l05Right.f k x.f0 x.f1 x.f2 bits) (rightB bits x)) : Ev (fun k => spec_l05Right.f k a b l bits) (rightB bits ⟨a, b, l⟩) := by
  refine stp (fun k => spec_l05Right.f.eq_2 ..) ?_
  by_cases k1 : a = 1
  · subst k1
    refine ifp rfl (ifp (by rw [u64_in (by omega) (by omega)]; omega) ?_)
    rw [shl_is bits hb1 hb2, rightB, okW, if_pos rfl]
    refine bnd0 (in_is _ _ _) ?_
    cases h : (decide (0 ≤ b) && decide (b ≤ wrap64 (wrap64 (2 ^ bits.toNat) - 1))) with
    | false => exact ifn (by simp) (sm _)
    | true =>
      show Ev _ (true && (((l.length : Int) == 0) && rights bits l))
      rw [len_zero, Bool.true_and]
      exact ifp rfl (sm _)
  · refine ifn k1 ?_
    by_cases k2 : a = 2
    · subst k2
      refine ifp rfl ?_
      rw [rightB, okW, if_neg (show ¬ (2 : Int) = 1 by decide), if_pos rfl]
      show Ev _ ((decide (0 ≤ b) && decide (b ≤ wrap64 ((12 : Int) / bits - 1))) && (((l.length : Int) == 0) && rights bits l))
      by_cases h0 : b ≥ 0
      · rw [decide_eq_true (show 0 ≤ b from h0), Bool.true_and]
        refine ifp h0 (ifn (by omega) ?_)
        by_cases h2 : b ≤ wrap64 ((12 : Int) / bits - 1)
        · rw [decide_eq_true h2, Bool.true_and, len_zero]
          exact ifp ((quo_is bits b hb1 hb2).2 h2) (sm _)
        · rw [decide_eq_false h2, Bool.false_and]
          exact ifn (fun h => h2 ((quo_is bits b hb1 hb2).1 h)) (sm _)
      · rw [decide_eq_false (show ¬ 0 ≤ b from h0), Bool.false_and, Bool.false_and]
        exact ifn h0 (sm _)
    · refine ifn k2 ?_
      by_cases k3 : a = 3
      · subst k3
        rw [rightB, okW, if_neg (by decide), if_neg (by decide), if_pos rfl]
        exact ifp rfl (jright_is bits 3 b l hl _ ih)
      · refine ifn k3 ?_
        by_cases k4 : a = 4
        · subst k4
          rw [rightB, okW, if_neg (by decide), if_neg (by decide), if_neg (by decide), if_pos rfl]
          exact ifp rfl (jright_is bits 4 b l hl _ ih)
        · refine ifn k4 ?_
          have := jright_is bits a b l hl (a == 5) ih
          by_cases k5 : a = 5
          · subst k5
            rw [rightB, okW, if_neg (by decide), if_neg (by decide), if_neg (by decide), if_neg (by decide), if_pos rfl]
            exact this
          · rw [beq_false_of_ne k5] at this ⊢
            rw [rightB, okW, if_neg k1, if_neg k2, if_neg k3, if_neg k4, if_neg k5]
            exact this
theorem right_is (bits : Int) (hb1 : 1 ≤ bits) (hb2 : bits ≤ 6) (n : Nat) : ∀ (a b : Int) (l : List S40), HL n l → Ev (fun k => spec_l05Right.f k a b l bits) (rightB bits ⟨a, b, l⟩) := by
  induction n with
  | zero =>
    intro a b l h
    exact rstep_is bits hb1 hb2 a b l h.1 fun x hx => (h.2 x hx).elim
  | succ n ih =>
    intro a b l h
    refine rstep_is bits hb1 hb2 a b l h.1 fun x hx => ?_
    have := ih x.f0 x.f1 x.f2 (h.2 x hx).2.2
    rwa [eta x] at this
/-- what both answer -/
def wordB (a b : Int) (l : List S40) (bits : Int) : Bool := (decide (1 ≤ bits) && decide (bits ≤ 6)) && (rightB bits ⟨a, b, l⟩ && decide (((nodes ⟨a, b, l⟩ : Nat) : Int) ≤ 9))
theorem wordOK_same (n : Nat) (a b : Int) (l : List S40) (bits : Int) (h0 : Reads.WFI a) (h1 : Reads.WFI b) (h : HL n l) : Ev (fun k => spec_WordOK.f k a b l bits) (wordB a b l bits) := by
  unfold wordB
  refine bnd0 (in_is bits 1 6) ?_
  cases hb : (decide (1 ≤ bits) && decide (bits ≤ 6)) with
  | false => exact ifn (by simp) (sm _)
  | true =>
    have hb' := Bool.and_eq_true_iff.1 hb
    have hb1 := of_decide_eq_true hb'.1
    have hb2 := of_decide_eq_true hb'.2
    refine ifp rfl ?_
    obtain ⟨v, _, _, hv, e1, _⟩ := left_is n a b l h 9 (by omega) (by omega)
    refine bnd hv ?_
    by_cases hs : v ≥ 0
    · rw [decide_eq_true (e1.1 hs), Bool.and_true, Bool.true_and]
      exact ifp hs (bnd (right_is bits hb1 hb2 n a b l h) (sm _))
    · rw [decide_eq_false (fun x => hs (e1.2 x)), Bool.and_false, Bool.true_and]
      exact ifn hs (sm _)
theorem toI_is (l : List Int) (hl : l.length ≤ 35184372088832) : Ev (fun k => laws_toIntS.f k l) l := by
  refine evc (fun k => laws_toIntS.f.eq_1 ..) (ifp (by omega) (ifp (by omega) ?_))
  have := copy (fun x : Int => x) l (fun i out k => laws_toIntS.l0 k l out i) ?_ ?_ (List.replicate (l.length : Int).toNat 0) (by simp)
  · simpa using this
  · intro out
    exact stp (fun k => laws_toIntS.l0.eq_2 ..) (ifn (by omega) (sm _))
  · intro i out r x hx hlen hk
    have hi : i < l.length := (List.getElem?_eq_some_iff.1 hx).1
    refine stp (fun k => laws_toIntS.l0.eq_2 ..) (ifp (by omega) (ifp (by omega) (ifp (by omega) ?_)))
    rw [show rd l (i : Int) = x from getD_some hx, up (by omega) (by omega : (i : Int) < (l.length : Int)) (by omega), Int.toNat_natCast]
    exact hk
theorem eqI_self (l : List Int) (hl : l.length ≤ 140737488351232) : Ev (fun k => laws_eqIntS.f k l l) true := by
  refine evc (fun k => laws_eqIntS.f.eq_1 ..) (ifp rfl ?_)
  refine same l (fun i k => laws_eqIntS.l0 k l l i) ?_ ?_
  · exact stp (fun k => laws_eqIntS.l0.eq_2 ..) (ifn (by omega) (sm _))
  · intro i x hx hk
    have hi : i < l.length := (List.getElem?_eq_some_iff.1 hx).1
    refine stp (fun k => laws_eqIntS.l0.eq_2 ..) (ifp (by omega) (ifp (by omega) (ifp (by omega) (ifp rfl ?_))))
    rw [up (by omega) (by omega : (i : Int) < (l.length : Int)) (by omega)]
    exact hk
/-- a value of so many bits -/
def inM (bits v : Int) : Prop := 0 ≤ v ∧ v ≤ wrap64 (wrap64 (2 ^ bits.toNat) - 1)
theorem valB_in {bits v : Int} (h : valB bits v = true) : inM bits v := by
  unfold valB at h
  rw [Bool.and_eq_true] at h
  exact ⟨of_decide_eq_true h.1, of_decide_eq_true h.2⟩
theorem m_le (bits : Int) (h1 : 1 ≤ bits) (h2 : bits ≤ 6) : wrap64 (wrap64 (2 ^ bits.toNat) - 1) ≤ 63 := by
  obtain rfl | rfl | rfl | rfl | rfl | rfl : bits = 1 ∨ bits = 2 ∨ bits = 3 ∨ bits = 4 ∨ bits = 5 ∨ bits = 6 := by omega
  all_goals exact of_decide_eq_true (by kernel_rfl)
def sumT (bits : Int) (n : Nat) : Bool := decide (Go.bits .and .i64 (n : Int) (wrap64 ((shl .i64 1 bits) - 1)) = Int.tmod (n : Int) (shl .i64 1 (IntKind.u64.wrap bits))) && (decide (0 ≤ Int.tmod (n : Int) (shl .i64 1 (IntKind.u64.wrap bits))) && decide (Int.tmod (n : Int) (shl .i64 1 (IntKind.u64.wrap bits)) ≤ wrap64 (wrap64 (2 ^ bits.toNat) - 1)))
theorem sumT_all (bits : Int) (h1 : 1 ≤ bits) (h2 : bits ≤ 6) : (List.range 127).all (sumT bits) = true := by
  obtain rfl | rfl | rfl | rfl | rfl | rfl : bits = 1 ∨ bits = 2 ∨ bits = 3 ∨ bits = 4 ∨ bits = 5 ∨ bits = 6 := by omega
  all_goals kernel_rfl
theorem sum_is (bits : Int) (h1 : 1 ≤ bits) (h2 : bits ≤ 6) (a b : Int) (ha : inM bits a) (hb : inM bits b) : Go.bits .and .i64 (wrap64 (a + b)) (wrap64 ((shl .i64 1 bits) - 1)) = Int.tmod (wrap64 (a + b)) (shl .i64 1 (IntKind.u64.wrap bits)) ∧ inM bits (Int.tmod (wrap64 (a + b)) (shl .i64 1 (IntKind.u64.wrap bits))) := by
  have hm := m_le bits h1 h2
  obtain ⟨a0, a1⟩ := ha
  obtain ⟨b0, b1⟩ := hb
  rw [w64 (x := a + b) (by omega) (by omega)]
  obtain ⟨n, hn⟩ : ∃ n : Nat, a + b = (n : Int) := ⟨(a + b).toNat, by omega⟩
  rw [hn]
  have h := List.all_eq_true.1 (sumT_all bits h1 h2) n (List.mem_range.2 (by omega))
  unfold sumT at h
  rw [Bool.and_eq_true, Bool.and_eq_true] at h
  exact ⟨of_decide_eq_true h.1, of_decide_eq_true h.2.1, of_decide_eq_true h.2.2⟩
def andT (a b : Nat) : Bool := decide (0 ≤ Go.bits .and .i64 (a : Int) (b : Int)) && decide (Go.bits .and .i64 (a : Int) (b : Int) ≤ (a : Int))
theorem andT_all : ((List.range 64).all fun a => (List.range 64).all fun b => andT a b) = true := by kernel_rfl
theorem and_in (bits : Int) (h1 : 1 ≤ bits) (h2 : bits ≤ 6) (a b : Int) (ha : inM bits a) (hb : inM bits b) : inM bits (Go.bits .and .i64 a b) := by
  have hm := m_le bits h1 h2
  obtain ⟨a0, a1⟩ := ha
  obtain ⟨b0, b1⟩ := hb
  obtain ⟨n, rfl⟩ : ∃ n : Nat, a = (n : Int) := ⟨a.toNat, by omega⟩
  obtain ⟨m, rfl⟩ : ∃ m : Nat, b = (m : Int) := ⟨b.toNat, by omega⟩
  have h := List.all_eq_true.1 (List.all_eq_true.1 andT_all n (List.mem_range.2 (by omega))) m (List.mem_range.2 (by omega))
  unfold andT at h
  rw [Bool.and_eq_true] at h
  have q1 := of_decide_eq_true h.1
  have q2 := of_decide_eq_true h.2
  exact ⟨q1, by omega⟩
theorem mn_in (bits a b : Int) (ha : inM bits a) (hb : inM bits b) : inM bits (mn a b) := by
  unfold mn
  split
  · exact hb
  · exact ha
theorem shl_pos (bits : Int) (h1 : 1 ≤ bits) (h2 : bits ≤ 6) : ¬ (shl .i64 1 (IntKind.u64.wrap bits)) = 0 := by
  obtain rfl | rfl | rfl | rfl | rfl | rfl : bits = 1 ∨ bits = 2 ∨ bits = 3 ∨ bits = 4 ∨ bits = 5 ∨ bits = 6 := by omega
  all_goals exact of_decide_eq_true (by kernel_rfl)
theorem quo_small (bits : Int) (h1 : 1 ≤ bits) (h2 : bits ≤ 6) : wrap64 ((12 : Int) / bits) = 12 / bits ∧ wrap64 ((12 : Int) / bits - 1) = 12 / bits - 1 := by
  obtain rfl | rfl | rfl | rfl | rfl | rfl : bits = 1 ∨ bits = 2 ∨ bits = 3 ∨ bits = 4 ∨ bits = 5 ∨ bits = 6 := by omega
  all_goals exact of_decide_eq_true (by kernel_rfl)
theorem vstep_is (bits : Int) (h1 : 1 ≤ bits) (h2 : bits ≤ 6) (vals : List Int) (hv : valsB bits vals = false) (a b : Int) (l : List S40) (hr : rightB bits ⟨a, b, l⟩ = true)
    (ih : ∀ x ∈ l, rightB bits x = true → ∃ v, inM bits v ∧ Ev (fun k => spec_l05Value.f k x.f0 x.f1 x.f2 bits vals) v ∧ Ev (fun k => impl_wordValue.f k x.f0 x.f1 x.f2 bits vals) v) :
    ∃ v, inM bits v ∧ Ev (fun k => spec_l05Value.f k a b l bits vals) v ∧ Ev (fun k => impl_wordValue.f k a b l bits vals) v := by
  by_cases k1 : a = 1
  · subst k1
    rw [rightB, okW, if_pos rfl] at hr
    have hr2 : ((decide (0 ≤ b) && decide (b ≤ wrap64 (wrap64 (2 ^ bits.toNat) - 1))) && (((l.length : Int) == 0) && rights bits l)) = true := hr
    rw [Bool.and_eq_true] at hr2
    exact ⟨b, valB_in hr2.1, stp (fun k => spec_l05Value.f.eq_2 ..) (ifp rfl (sm _)), stp (fun k => impl_wordValue.f.eq_2 ..) (ifp rfl (sm _))⟩
  · by_cases k2 : a = 2
    · subst k2
      rw [rightB, okW, if_neg (by decide), if_pos rfl] at hr
      have hr2 : ((decide (0 ≤ b) && decide (b ≤ wrap64 ((12 : Int) / bits - 1))) && (((l.length : Int) == 0) && rights bits l)) = true := hr
      rw [Bool.and_eq_true, Bool.and_eq_true] at hr2
      have b0 := of_decide_eq_true hr2.1.1
      have b1 := of_decide_eq_true hr2.1.2
      rw [(quo_small bits h1 h2).2] at b1
      unfold valsB at hv
      rw [Bool.or_eq_false_iff] at hv
      have hl : (vals.length : Int) = 12 / bits := by
        have := of_decide_eq_false hv.1
        omega
      have hb : b < (vals.length : Int) := by omega
      obtain ⟨n, rfl⟩ : ∃ n : Nat, b = (n : Int) := ⟨b.toNat, by omega⟩
      have hn : n < vals.length := by omega
      have hx : vals[n]? = some vals[n] := List.getElem?_eq_getElem hn
      have hin : valB bits vals[n] = true := by
        have := List.any_eq_false.1 hv.2 vals[n] (List.getElem_mem hn)
        simpa using this
      have hrd : rd vals (n : Int) = vals[n] := getD_some hx
      refine ⟨vals[n], valB_in hin, stp (fun k => spec_l05Value.f.eq_2 ..) (ifn (by decide) (ifp rfl (ifp b0 (ifp hb ?_)))), stp (fun k => impl_wordValue.f.eq_2 ..) (ifn (by decide) (ifp rfl (ifp b0 (ifp hb ?_))))⟩
      · rw [hrd]
        exact sm _
      · rw [hrd]
        exact sm _
    · have hbin : (a = 3 ∨ a = 4 ∨ a = 5) ∧ (l.length : Int) = 2 ∧ rights bits l = true := by
        rw [rightB, okW, if_neg k1, if_neg k2] at hr
        by_cases k3 : a = 3
        · rw [if_pos k3] at hr
          have hr2 : ((b == 0) && (((l.length : Int) == 2) && rights bits l)) = true := hr
          rw [Bool.and_eq_true, Bool.and_eq_true] at hr2
          exact ⟨.inl k3, beq_iff_eq.1 hr2.2.1, hr2.2.2⟩
        · by_cases k4 : a = 4
          · rw [if_neg k3, if_pos k4] at hr
            have hr2 : ((b == 0) && (((l.length : Int) == 2) && rights bits l)) = true := hr
            rw [Bool.and_eq_true, Bool.and_eq_true] at hr2
            exact ⟨.inr (.inl k4), beq_iff_eq.1 hr2.2.1, hr2.2.2⟩
          · by_cases k5 : a = 5
            · rw [if_neg k3, if_neg k4, if_pos k5] at hr
              have hr2 : ((b == 0) && (((l.length : Int) == 2) && rights bits l)) = true := hr
              rw [Bool.and_eq_true, Bool.and_eq_true] at hr2
              exact ⟨.inr (.inr k5), beq_iff_eq.1 hr2.2.1, hr2.2.2⟩
            · rw [if_neg k3, if_neg k4, if_neg k5] at hr
              cases hr
      obtain ⟨ha, hl, hrs⟩ := hbin
      obtain ⟨x, y, rfl⟩ : ∃ x y, l = [x, y] := by
        cases l with
        | nil => simp at hl
        | cons x r =>
          cases r with
          | nil => simp at hl
          | cons y r =>
            cases r with
            | nil => exact ⟨x, y, rfl⟩
            | cons z r => simp at hl; omega
      rw [rights, rights, rights, Bool.and_true, Bool.and_eq_true] at hrs
      obtain ⟨u, hu, hu1, hu2⟩ := ih x (by simp) hrs.1
      obtain ⟨v, hv0, hv1, hv2⟩ := ih y (by simp) hrs.2
      have hfin : ∃ r, inM bits r ∧ Ev (fun _ => (if a = 3 then (if 0 ≤ (IntKind.u64.wrap bits) then (if (shl .i64 1 (IntKind.u64.wrap bits)) = 0 then (none) else (some (Int.tmod (wrap64 (u + v)) (shl .i64 1 (IntKind.u64.wrap bits))))) else (none)) else (if a = 4 then (some (Go.bits .and .i64 u v)) else (some (mn u v))))) r ∧ Ev (fun _ => (if a = 3 then (if 0 ≤ bits then (some (Go.bits .and .i64 (wrap64 (u + v)) (wrap64 ((shl .i64 1 bits) - 1)))) else (none)) else (if a = 4 then (some (Go.bits .and .i64 u v)) else (some (mn u v))))) r := by
        rcases ha with rfl | rfl | rfl
        · have hs := sum_is bits h1 h2 u v hu hv0
          refine ⟨_, hs.2, ifp rfl (ifp (by rw [u64_in (by omega) (by omega)]; omega) (ifn (shl_pos bits h1 h2) (sm _))), ifp rfl (ifp (by omega) ?_)⟩
          rw [hs.1]
          exact sm _
        · exact ⟨_, and_in bits h1 h2 u v hu hv0, ifn (by decide) (ifp rfl (sm _)), ifn (by decide) (ifp rfl (sm _))⟩
        · exact ⟨_, mn_in bits u v hu hv0, ifn (by decide) (ifn (by decide) (sm _)), ifn (by decide) (ifn (by decide) (sm _))⟩
      obtain ⟨r, hr0, hr1, hr2⟩ := hfin
      exact ⟨r, hr0, stp (fun k => spec_l05Value.f.eq_2 ..) (ifn k1 (ifn k2 (ifp (by simp) (bnd hu1 (ifp (by simp) (bnd hv1 hr1)))))), stp (fun k => impl_wordValue.f.eq_2 ..) (ifn k1 (ifn k2 (ifp (by simp) (bnd hu2 (ifp (by simp) (bnd hv2 hr2))))))⟩
theorem value_is (bits : Int) (h1 : 1 ≤ bits) (h2 : bits ≤ 6) (vals : List Int) (hv : valsB bits vals = false) (n : Nat) : ∀ (a b : Int) (l : List S40), HL n l → rightB bits ⟨a, b, l⟩ = true → ∃ v, inM bits v ∧ Ev (fun k => spec_l05Value.f k a b l bits vals) v ∧ Ev (fun k => impl_wordValue.f k a b l bits vals) v := by
  induction n with
  | zero =>
    intro a b l h hr
    exact vstep_is bits h1 h2 vals hv a b l hr fun x hx => (h.2 x hx).elim
  | succ n ih =>
    intro a b l h hr
    refine vstep_is bits h1 h2 vals hv a b l hr fun x hx hrx => ?_
    exact ih x.f0 x.f1 x.f2 (h.2 x hx).2.2 (by rw [eta x]; exact hrx)
theorem wordI_is (a b : Int) (l : List S40) (bits : Int) : wordI a b l bits = wordB a b l bits := by
  unfold wordI wordB
  rw [(count_is bits ⟨a, b, l⟩ 0 (by omega) (by omega)).1]
  simp
/-- both come to one answer -/
theorem wordValue_same (n : Nat) (a b : Int) (l : List S40) (bits : Int) (vals : List Int) (h0 : Reads.WFI a) (h1 : Reads.WFI b) (h : HL n l) (hvl : vals.length * 8 ≤ 140737488351232) : ∃ p, Ev (fun k => spec_WordValue.f k a b l bits vals) p ∧ Ev (fun k => impl_WordValue.f k a b l bits vals) p := by
  by_cases t1 : (vals.length : Int) > 4096
  · exact ⟨(0, 2), ifp t1 (sm _), ifp t1 (sm _)⟩
  · have hw := wordOK_same n a b l bits h0 h1 h
    cases hb : wordB a b l bits with
    | false =>
      rw [hb] at hw
      exact ⟨(0, 1), ifn t1 (bnd hw (ifn (by simp) (sm _))), ifn t1 (ifn (by rw [wordI_is, hb]; simp) (sm _))⟩
    | true =>
      rw [hb] at hw
      have hI : wordI a b l bits = true := by rw [wordI_is, hb]
      unfold wordB at hb
      rw [Bool.and_eq_true, Bool.and_eq_true, Bool.and_eq_true] at hb
      have b1 := of_decide_eq_true hb.1.1
      have b2 := of_decide_eq_true hb.1.2
      have hq := quo_small bits b1 b2
      by_cases t2 : (vals.length : Int) = 12 / bits
      · have hspec : ∀ r, Ev (fun k => spec_l05Value.f k a b l bits vals) r ∨ valsB bits vals = true → ∀ p, (valsB bits vals = true → p = (0, 5)) → (valsB bits vals = false → p = (r, 0)) → Ev (fun k => spec_WordValue.l0 k bits vals 0 a b l) p := by
          intro r hr p hp1 hp2
          have key : ∀ (d i : Nat), i + d = vals.length → ∀ q, (((vals.drop i).any fun n => !(valB bits n)) = true → q = (0, 5)) → (((vals.drop i).any fun n => !(valB bits n)) = false → q = (r, 0)) → (Ev (fun k => spec_l05Value.f k a b l bits vals) r ∨ ((vals.drop i).any fun n => !(valB bits n)) = true) → Ev (fun k => spec_WordValue.l0 k bits vals (i : Int) a b l) q := by
            intro d
            induction d with
            | zero =>
              intro i hi q _ hq2 hq3
              obtain rfl : i = vals.length := by omega
              rw [List.drop_length] at hq2 hq3
              rcases hq3 with hq3 | hq3
              · rw [hq2 rfl]
                exact stp (fun k => spec_WordValue.l0.eq_2 ..) (ifn (by omega) (bnd hq3 (sm _)))
              · cases hq3
            | succ d ih =>
              intro i hi q hq1 hq2 hq3
              have hil : i < vals.length := by omega
              have hx : vals[i]? = some vals[i] := List.getElem?_eq_getElem hil
              rw [List.drop_eq_getElem_cons hil, List.any_cons] at hq1 hq2 hq3
              refine stp (fun k => spec_WordValue.l0.eq_2 ..) (ifp (by omega) (ifp (by omega) (ifp (by rw [u64_in (by omega) (by omega)]; omega) ?_)))
              rw [show rd vals (i : Int) = vals[i] from getD_some hx, up (by omega) (by omega : (i : Int) < (vals.length : Int)) (by omega), shl_is bits b1 b2]
              refine bnd0 (in_is _ _ _) ?_
              cases hvb : valB bits vals[i] with
              | false =>
                have hvb' : (decide (0 ≤ vals[i]) && decide (vals[i] ≤ wrap64 (wrap64 (2 ^ bits.toNat) - 1))) = false := hvb
                rw [hvb', hq1 (by rw [hvb]; rfl)]
                exact ifn (by simp) (sm _)
              | true =>
                have hvb' : (decide (0 ≤ vals[i]) && decide (vals[i] ≤ wrap64 (wrap64 (2 ^ bits.toNat) - 1))) = true := hvb
                rw [hvb']
                rw [hvb, Bool.not_true, Bool.false_or] at hq1 hq2 hq3
                refine ifp rfl ?_
                have := ih (i + 1) (by omega) q hq1 hq2 hq3
                rwa [show ((i + 1 : Nat) : Int) = (i : Int) + 1 by omega] at this
          have e : valsB bits vals = (vals.any fun n => !(valB bits n)) := by
            unfold valsB
            rw [decide_eq_false (fun hn => hn t2), Bool.false_or]
          rw [e] at hr hp1 hp2
          exact key vals.length 0 (by omega) p hp1 hp2 hr
        cases hvs : valsB bits vals with
        | true =>
          refine ⟨(0, 5), ifn t1 (bnd hw (ifp rfl (ifn (by omega) ?_))), ifn t1 (ifp hI (ifp hvs (sm _)))⟩
          rw [hq.1]
          exact ifp t2 (hspec 0 (.inr hvs) _ (fun _ => rfl) (fun hf => by rw [hvs] at hf; cases hf))
        | false =>
          obtain ⟨v, _, hv1, hv2⟩ := value_is bits b1 b2 vals hvs n a b l h hb.2.1
          refine ⟨(v, 0), ifn t1 (bnd hw (ifp rfl (ifn (by omega) ?_))), ifn t1 (ifp hI (ifn (by rw [hvs]; simp) (bnd hv2 (sm _))))⟩
          rw [hq.1]
          exact ifp t2 (hspec v (.inl hv1) _ (fun hf => by rw [hvs] at hf; cases hf) (fun _ => rfl))
      · have hvs : valsB bits vals = true := by
          unfold valsB
          rw [decide_eq_true t2, Bool.true_or]
        refine ⟨(0, 5), ifn t1 (bnd hw (ifp rfl (ifn (by omega) ?_))), ifn t1 (ifp hI (ifp hvs (sm _)))⟩
        rw [hq.1]
        exact ifn t2 (sm _)

theorem FnExactWordValue : laws_FnExactWordValue.Pure := by
  intro a0 a1 l bits vals h0 h1 hl hb hvals
  refine Ev.rounds ?_
  have hvl : vals.length * 8 ≤ 140737488351232 := hvals.1
  by_cases t1 : (vals.length : Int) > 1048576
  · exact ifp t1 (sm _)
  · refine ifn t1 ?_
    obtain ⟨v, hv⟩ := sz_is a0 a1 l hl
    by_cases hs : v < 0
    · exact bnd hv (ifp hs (sm _))
    · refine bnd hv (ifn hs ?_)
      obtain ⟨n, hn⟩ := wl_of hl
      have hL := HL_cv n l hn
      have hto := to_is a0 a1 l hl
      have hti := toI_is vals (by omega)
      obtain ⟨p, hp1, hp2⟩ := wordValue_same n a0 a1 (l.map cv) bits vals h0 h1 hL hvl
      refine bnd hto (bnd hti (bnd hp1 (bnd hto (bnd hti (bnd hp2 (ifp rfl ?_))))))
      refine stp (fun k => laws_FnExactWordValue.j0.eq_2 ..) (ifn (by simp) ?_)
      exact bnd hto (bnd (eq_self n _ _ _ hL) (ifp rfl (bnd hti (bnd (eqI_self vals (by omega)) (ifp rfl (sm _))))))

end Go.Proofs.Ytdmeonkkbihbhaa.Pure
