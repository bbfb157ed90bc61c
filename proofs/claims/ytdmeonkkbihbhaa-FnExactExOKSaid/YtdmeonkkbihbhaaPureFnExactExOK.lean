/- FnExactExOK: the pure statement behind the law: the program tells of the same expressions as the reference that they are right. No conditions. -/
import Derived.Test.YtdmeonkkbihbhaaDefFnExactExOK
import Derived.Test.YtdmeonkkbihbhaaPlain
set_option linter.unusedVariables false
set_option linter.unusedSimpArgs false
namespace Go.Proofs.Ytdmeonkkbihbhaa.Pure
open Go.RowKit Go.Proofs.Ytdmeonkkbihbhaa Go.Proofs.Ytdmeonkkbihbhaa.PFnExactExOK Go.Proofs.YtdmeonkkbihbhaaW.PrintWords Go.Proofs.YtdmeonkkbihbhaaW.PrintLast Go.Proofs.Ytdmeonkkbihbhaa.Plain

/-! a tree of type Ex: its bounds, the program's own copy of it, and the functions sz, to and eq -/
theorem u_num {x : Int} (h : Reads.WFI x) : -9223372036854775808 ≤ x ∧ x ≤ 9223372036854775807 := h
mutual
def cv : S66 → S71
  | ⟨a, b, l⟩ => ⟨a, b, cvs l⟩
def cvs : List S66 → List S71
  | [] => []
  | x :: r => cv x :: cvs r
end
theorem cvs_map (l : List S66) : cvs l = l.map cv := by
  induction l with
  | nil => rfl
  | cons x r ih => rw [cvs, List.map_cons, ih]
theorem cv_0 (x : S66) : (cv x).f0 = x.f0 := by
  obtain ⟨a, b, l⟩ := x
  rw [cv]
theorem cv_1 (x : S66) : (cv x).f1 = x.f1 := by
  obtain ⟨a, b, l⟩ := x
  rw [cv]
theorem cv_2 (x : S66) : (cv x).f2 = x.f2.map cv := by
  obtain ⟨a, b, l⟩ := x
  rw [cv]
  exact cvs_map l
theorem cv_mk (x : S66) : (⟨x.f0, x.f1, x.f2.map cv⟩ : S71) = cv x := by
  obtain ⟨a, b, l⟩ := x
  rw [cv, cvs_map]
abbrev WL (n : Nat) (l : List S66) : Prop := Reads.WFL 40 (wf66N n) l
theorem wl_le {n m : Nat} (h : n ≤ m) : ∀ x, wf66N n x → wf66N m x := by
  induction n generalizing m with
  | zero => exact fun x hx => hx.elim
  | succ n ih =>
    intro x hx
    cases m with
    | zero => omega
    | succ m => exact ⟨hx.1, hx.2.1, hx.2.2.1, fun y hy => ih (by omega) y (hx.2.2.2 y hy)⟩
theorem wl_of {l : List S66} (h : Reads.WFL 40 wf66 l) : ∃ n, WL n l := by
  have : ∀ l : List S66, (∀ x ∈ l, wf66 x) → ∃ n, ∀ x ∈ l, wf66N n x := by
    intro l
    induction l with
    | nil => exact fun _ => ⟨0, fun x hx => by cases hx⟩
    | cons a r ih =>
      intro h
      obtain ⟨n, hn⟩ := ih fun x hx => h x (List.mem_cons_of_mem _ hx)
      obtain ⟨m, hm⟩ := h a List.mem_cons_self
      refine ⟨n + m, fun x hx => ?_⟩
      rcases List.mem_cons.1 hx with rfl | hx
      · exact wl_le (by omega) _ hm
      · exact wl_le (by omega) _ (hn x hx)
  obtain ⟨n, hn⟩ := this l h.2
  exact ⟨n, h.1, hn⟩
theorem szS_is (n : Nat) : ∀ l, WL n l → ∀ left : Int, 0 ≤ left → left ≤ 1048576 → ∃ v : Int, -1 ≤ v ∧ v ≤ 1048576 ∧ Ev (fun k => laws_szExS.f k l left) v := by
  induction n with
  | zero =>
    intro l h left h0 h1
    cases l with
    | cons x r => exact (h.2 x List.mem_cons_self).elim
    | nil =>
      refine ⟨left, by omega, h1, stp (fun k => laws_szExS.f.eq_2 ..) ?_⟩
      rw [show wrap64 (left - (([] : List S66).length : Int)) = left by simp; exact w64 (by omega) (by omega)]
      exact ifn (by omega) (stp (fun k => laws_szExS.l0.eq_2 ..) (ifn (by simp) (sm _)))
  | succ n ih =>
    intro l h left h0 h1
    have hl : l.length * 40 ≤ 140737488351232 := h.1
    by_cases hs : left - (l.length : Int) < 0
    · exact ⟨-1, by omega, by omega, stp (fun k => laws_szExS.f.eq_2 ..) (ifp (by rw [w64 (by omega) (by omega)]; exact hs) (sm _))⟩
    · have key : ∀ (d i : Nat) (lf : Int), i + d = l.length → 0 ≤ lf → lf ≤ 1048576 → ∃ v : Int, -1 ≤ v ∧ v ≤ 1048576 ∧ Ev (fun k => laws_szExS.l0 k l lf (i : Int)) v := by
        intro d
        induction d with
        | zero =>
          intro i lf hi hf0 hf1
          exact ⟨lf, by omega, hf1, stp (fun k => laws_szExS.l0.eq_2 ..) (ifn (by omega) (sm _))⟩
        | succ d ihd =>
          intro i lf hi hf0 hf1
          have hil : i < l.length := by omega
          have hx : l[i]? = some l[i] := List.getElem?_eq_getElem hil
          have hw := h.2 l[i] (List.getElem_mem hil)
          obtain ⟨v, hv0, hv1, hv⟩ := ih l[i].f2 hw.2.2 lf hf0 hf1
          by_cases hn : v < 0
          · refine ⟨-1, by omega, by omega, stp (fun k => laws_szExS.l0.eq_2 ..) (ifp (by omega) (ifp (by omega) ?_))⟩
            rw [show rd_T66 l (i : Int) = l[i] from getD_some hx]
            exact bnd (a := -1) (bnd hv (ifp hn (sm _))) (ifp (by omega) (sm _))
          · obtain ⟨u, hu0, hu1, hu⟩ := ihd (i + 1) v (by omega) (by omega) hv1
            rw [show ((i + 1 : Nat) : Int) = (i : Int) + 1 by omega] at hu
            refine ⟨u, hu0, hu1, stp (fun k => laws_szExS.l0.eq_2 ..) (ifp (by omega) (ifp (by omega) ?_))⟩
            rw [show rd_T66 l (i : Int) = l[i] from getD_some hx, up (by omega) (by omega : (i : Int) < (l.length : Int)) (by omega)]
            exact bnd (a := v) (bnd hv (ifn hn (sm _))) (ifn hn hu)
      obtain ⟨v, hv0, hv1, hev⟩ := key l.length 0 (left - (l.length : Int)) (by omega) (by omega) (by omega)
      refine ⟨v, hv0, hv1, stp (fun k => laws_szExS.f.eq_2 ..) (ifn (by rw [w64 (by omega) (by omega)]; exact hs) ?_)⟩
      rw [w64 (by omega) (by omega)]
      exact hev
theorem sz_is (a b : Int) (l : List S66) (h : Reads.WFL 40 wf66 l) : ∃ v : Int, Ev (fun k => laws_szEx.f k a b l 1048576) v := by
  obtain ⟨n, hn⟩ := wl_of h
  obtain ⟨v, _, _, hv⟩ := szS_is n l hn 1048576 (by omega) (by omega)
  by_cases hs : v < 0
  · exact ⟨-1, bnd hv (ifp hs (sm _))⟩
  · exact ⟨v, bnd hv (ifn hs (sm _))⟩
theorem toS_is (n : Nat) : ∀ l, WL n l → Ev (fun k => laws_toExS.f k l) (l.map cv) := by
  induction n with
  | zero =>
    intro l h
    cases l with
    | cons x r => exact (h.2 x List.mem_cons_self).elim
    | nil => exact stp (fun k => laws_toExS.f.eq_2 ..) (ifp (by simp) (ifp (by simp) (stp (fun k => laws_toExS.l0.eq_2 ..) (ifn (by simp) (sm _)))))
  | succ n ih =>
    intro l h
    have hl : l.length * 40 ≤ 140737488351232 := h.1
    refine stp (fun k => laws_toExS.f.eq_2 ..) (ifp (by omega) (ifp (by omega) ?_))
    refine copy cv l (fun i out k => laws_toExS.l0 k l out i) ?_ ?_ (List.replicate (l.length : Int).toNat z71) (by simp)
    · intro out
      exact stp (fun k => laws_toExS.l0.eq_2 ..) (ifn (by omega) (sm _))
    · intro i out r x hx hlen hk
      have hi : i < l.length := (List.getElem?_eq_some_iff.1 hx).1
      have hw := h.2 x (List.mem_of_getElem? hx)
      refine stp (fun k => laws_toExS.l0.eq_2 ..) (ifp (by omega) (ifp (by omega) ?_))
      rw [show rd_T66 l (i : Int) = x from getD_some hx, up (by omega) (by omega : (i : Int) < (l.length : Int)) (by omega), Int.toNat_natCast]
      refine bnd (a := (x.f0, x.f1, x.f2.map cv)) (bnd (ih x.f2 hw.2.2) (sm _)) (ifp (by omega) ?_)
      show Ev (fun k => laws_toExS.l0 k l (out.set i ⟨x.f0, x.f1, x.f2.map cv⟩) ((i : Int) + 1)) r
      rw [cv_mk]
      exact hk
theorem to_is (a b : Int) (l : List S66) (h : Reads.WFL 40 wf66 l) : Ev (fun k => laws_toEx.f k a b l) (a, b, l.map cv) := by
  obtain ⟨n, hn⟩ := wl_of h
  exact bnd (toS_is n l hn) (sm _)
/-- a tree of the program's kind within its bounds -/
def HN : Nat → S71 → Prop
  | 0, _ => False
  | n + 1, x => Reads.WFI x.f0 ∧ (Reads.WFI x.f1 ∧ Reads.WFL 40 (HN n) x.f2)
abbrev HL (n : Nat) (l : List S71) : Prop := Reads.WFL 40 (HN n) l
theorem HN_cv (n : Nat) : ∀ x, wf66N n x → HN n (cv x) := by
  induction n with
  | zero => exact fun x h => h.elim
  | succ n ih =>
    intro x h
    refine ⟨by rw [cv_0]; exact h.1, by rw [cv_1]; exact h.2.1, ?_⟩
    rw [cv_2]
    refine ⟨by simpa using h.2.2.1, fun y hy => ?_⟩
    obtain ⟨z, hz, rfl⟩ := List.mem_map.1 hy
    exact ih z (h.2.2.2 z hz)
theorem HL_cv (n : Nat) (l : List S66) (h : WL n l) : HL n (l.map cv) := by
  refine ⟨by simpa using h.1, fun y hy => ?_⟩
  obtain ⟨z, hz, rfl⟩ := List.mem_map.1 hy
  exact HN_cv n z (h.2 z hz)
theorem eqS_self (n : Nat) : ∀ l, HL n l → Ev (fun k => laws_eqExS.f k l l) true := by
  induction n with
  | zero =>
    intro l h
    cases l with
    | cons x r => exact (h.2 x List.mem_cons_self).elim
    | nil => exact stp (fun k => laws_eqExS.f.eq_2 ..) (ifp rfl (stp (fun k => laws_eqExS.l0.eq_2 ..) (ifn (by simp) (sm _))))
  | succ n ih =>
    intro l h
    have hl : l.length * 40 ≤ 140737488351232 := h.1
    refine stp (fun k => laws_eqExS.f.eq_2 ..) (ifp rfl ?_)
    refine same l (fun i k => laws_eqExS.l0 k l l i) ?_ ?_
    · exact stp (fun k => laws_eqExS.l0.eq_2 ..) (ifn (by omega) (sm _))
    · intro i x hx hk
      have hi : i < l.length := (List.getElem?_eq_some_iff.1 hx).1
      have hw := h.2 x (List.mem_of_getElem? hx)
      refine stp (fun k => laws_eqExS.l0.eq_2 ..) (ifp (by omega) (ifp (by omega) (ifp (by omega) ?_)))
      rw [show rd_T71 l (i : Int) = x from getD_some hx, up (by omega) (by omega : (i : Int) < (l.length : Int)) (by omega)]
      exact bnd (a := true) (ifp rfl (ifp rfl (bnd (ih x.f2 hw.2.2) (ifp rfl (sm _))))) (ifp rfl hk)
theorem eq_self (n : Nat) (a b : Int) (l : List S71) (h : HL n l) : Ev (fun k => laws_eqEx.f k a b l a b l) true := ifp rfl (ifp rfl (bnd (eqS_self n l h) (ifp rfl (sm _))))
mutual
/-- how many nodes a tree has -/
def nodes : S71 → Nat
  | ⟨_, _, l⟩ => 1 + nodess l
def nodess : List S71 → Nat
  | [] => 0
  | x :: r => nodes x + nodess r
end
theorem nodes_pos (x : S71) : 1 ≤ nodes x := by
  obtain ⟨a, b, l⟩ := x
  rw [nodes]
  omega
theorem eta (x : S71) : (⟨x.f0, x.f1, x.f2⟩ : S71) = x := by
  obtain ⟨a, b, l⟩ := x
  rfl
mutual
/-- nothing stands too deep -/
def deepB : S71 → Int → Bool
  | ⟨_, _, l⟩, d => decide (d ≤ 40) && deepBs l (d + 1)
def deepBs : List S71 → Int → Bool
  | [], _ => true
  | x :: r, d => deepB x d && deepBs r d
end
theorem left_step (a b : Int) (l : List S71) (hl : l.length * 40 ≤ 140737488351232) (dp : Int) (hd0 : 0 ≤ dp) (hd1 : dp ≤ 40) (ih : ∀ x ∈ l, ∀ left : Int, 0 ≤ left → left ≤ 1048576 → ∃ v : Int, -1 ≤ v ∧ v ≤ 1048576 ∧ Ev (fun k => spec_l04Left.f k x.f0 x.f1 x.f2 left (dp + 1)) v ∧ (0 ≤ v ↔ (deepB x (dp + 1) = true ∧ ((nodes x : Nat) : Int) ≤ left)) ∧ (0 ≤ v → v = left - ((nodes x : Nat) : Int))) :
    ∀ (d i : Nat) (lf : Int), i + d = l.length → -1 ≤ lf → lf ≤ 1048576 → ∃ v : Int, -1 ≤ v ∧ v ≤ 1048576 ∧ Ev (fun k => spec_l04Left.l0 k lf dp (i : Int) a b l) v ∧ (0 ≤ v ↔ (deepBs (l.drop i) (dp + 1) = true ∧ ((nodess (l.drop i) : Nat) : Int) ≤ lf)) ∧ (0 ≤ v → v = lf - ((nodess (l.drop i) : Nat) : Int)) := by
  intro d
  induction d with
  | zero =>
    intro i lf hi hf0 hf1
    obtain rfl : i = l.length := by omega
    refine ⟨lf, hf0, hf1, stp (fun k => spec_l04Left.l0.eq_2 ..) (ifn (by omega) (sm _)), ?_, ?_⟩
    · rw [List.drop_length, nodess, deepBs]
      simp
    · rw [List.drop_length, nodess]
      omega
  | succ d ihd =>
    intro i lf hi hf0 hf1
    have hil : i < l.length := by omega
    have hx : l[i]? = some l[i] := List.getElem?_eq_getElem hil
    rw [List.drop_eq_getElem_cons hil, nodess, deepBs]
    have hp := nodes_pos l[i]
    by_cases hneg : lf ≥ 0
    · obtain ⟨v, hv0, hv1, hv, hv2, hv3⟩ := ih l[i] (List.getElem_mem hil) lf hneg hf1
      obtain ⟨u, hu0, hu1, hu, hu2, hu3⟩ := ihd (i + 1) v (by omega) hv0 hv1
      refine ⟨u, hu0, hu1, stp (fun k => spec_l04Left.l0.eq_2 ..) (ifp (by omega) (ifp hneg (ifp (by omega) ?_))), ?_, ?_⟩
      · rw [show rd_T71 l (i : Int) = l[i] from getD_some hx, up (by omega) (by omega : (i : Int) < (l.length : Int)) (by omega), w64 (x := dp + 1) (by omega) (by omega)]
        rw [show ((i + 1 : Nat) : Int) = (i : Int) + 1 by omega] at hu
        exact bnd hv hu
      · rw [Bool.and_eq_true, hu2]
        constructor
        · rintro ⟨h1, h2⟩
          have hv' := hv2.1 (by omega)
          have := hv3 (by omega)
          exact ⟨⟨hv'.1, h1⟩, by omega⟩
        · rintro ⟨⟨h1, h2⟩, h3⟩
          have h4 := hv2.2 ⟨h1, by omega⟩
          have := hv3 h4
          exact ⟨h2, by omega⟩
      · intro h
        have h1 := hu2.1 h
        have h2 := hv3 (by omega)
        have := hu3 h
        omega
    · refine ⟨lf, hf0, hf1, stp (fun k => spec_l04Left.l0.eq_2 ..) (ifp (by omega) (ifn hneg (sm _))), ?_, ?_⟩
      · constructor
        · intro h
          omega
        · rintro ⟨_, h⟩
          omega
      · omega
theorem left_is (n : Nat) : ∀ (a b : Int) (l : List S71), HL n l → ∀ dp : Int, 0 ≤ dp → dp ≤ 100 → ∀ left : Int, 0 ≤ left → left ≤ 1048576 → ∃ v : Int, -1 ≤ v ∧ v ≤ 1048576 ∧ Ev (fun k => spec_l04Left.f k a b l left dp) v ∧ (0 ≤ v ↔ (deepB ⟨a, b, l⟩ dp = true ∧ ((nodes ⟨a, b, l⟩ : Nat) : Int) ≤ left)) ∧ (0 ≤ v → v = left - ((nodes ⟨a, b, l⟩ : Nat) : Int)) := by
  induction n with
  | zero =>
    intro a b l h dp hd0 hd1 left h0 h1
    by_cases hdp : dp > 40
    · refine ⟨-1, by omega, by omega, stp (fun k => spec_l04Left.f.eq_2 ..) (ifp hdp (sm _)), ?_, by omega⟩
      rw [deepB, decide_eq_false (by omega)]
      simp
    · obtain ⟨v, hv0, hv1, hev, h2, h3⟩ := left_step a b l h.1 dp hd0 (by omega) (fun x hx => (h.2 x hx).elim) l.length 0 (left - 1) (by omega) (by omega) (by omega)
      rw [List.drop_zero] at h2 h3
      refine ⟨v, hv0, hv1, stp (fun k => spec_l04Left.f.eq_2 ..) (ifn hdp ?_), ?_, ?_⟩
      · rw [w64 (by omega) (by omega)]
        exact hev
      · rw [nodes, deepB, decide_eq_true (by omega : dp ≤ 40), Bool.true_and, h2]
        constructor
        · rintro ⟨q1, q2⟩; exact ⟨q1, by omega⟩
        · rintro ⟨q1, q2⟩; exact ⟨q1, by omega⟩
      · rw [nodes]
        omega
  | succ n ih =>
    intro a b l h dp hd0 hd1 left h0 h1
    by_cases hdp : dp > 40
    · refine ⟨-1, by omega, by omega, stp (fun k => spec_l04Left.f.eq_2 ..) (ifp hdp (sm _)), ?_, by omega⟩
      rw [deepB, decide_eq_false (by omega)]
      simp
    · obtain ⟨v, hv0, hv1, hev, h2, h3⟩ := left_step a b l h.1 dp hd0 (by omega) (fun x hx left q0 q1 => by
        have := ih x.f0 x.f1 x.f2 (h.2 x hx).2.2 (dp + 1) (by omega) (by omega) left q0 q1
        rwa [eta x] at this) l.length 0 (left - 1) (by omega) (by omega) (by omega)
      rw [List.drop_zero] at h2 h3
      refine ⟨v, hv0, hv1, stp (fun k => spec_l04Left.f.eq_2 ..) (ifn hdp ?_), ?_, ?_⟩
      · rw [w64 (by omega) (by omega)]
        exact hev
      · rw [nodes, deepB, decide_eq_true (by omega : dp ≤ 40), Bool.true_and, h2]
        constructor
        · rintro ⟨q1, q2⟩; exact ⟨q1, by omega⟩
        · rintro ⟨q1, q2⟩; exact ⟨q1, by omega⟩
      · rw [nodes]
        omega
mutual
theorem count_is : ∀ (y : S71) (deep c : Int), 0 ≤ deep → deep ≤ 100 → 0 ≤ c → c ≤ 400 → (countE y deep c).1 = (rightE y && (deepB y deep && decide (c + ((nodes y : Nat) : Int) ≤ 400))) ∧ ((countE y deep c).1 = true → (countE y deep c).2 = c + ((nodes y : Nat) : Int))
  | ⟨kind, n, kids⟩, deep, c, d0, d1, h0, h1 => by
    rw [countE, rightE, nodes, deepB, w64 (x := c + 1) (by omega) (by omega), w64 (x := deep + 1) (by omega) (by omega)]
    by_cases t1 : c + 1 > 400
    · rw [decide_eq_true t1, Bool.true_or, if_pos rfl]
      have : ¬ (c + ((1 + nodess kids : Nat) : Int) ≤ 400) := by omega
      rw [decide_eq_false this]
      exact ⟨by simp, by simp⟩
    · rw [decide_eq_false t1, Bool.false_or]
      by_cases t2 : deep > 40
      · rw [decide_eq_true t2, Bool.true_or, if_pos rfl, decide_eq_false (by omega : ¬ deep ≤ 40)]
        exact ⟨by simp, by simp⟩
      · rw [decide_eq_false t2, Bool.false_or, decide_eq_true (by omega : deep ≤ 40)]
        cases hm : ((kids.length : Int) == kidsM kind) with
        | false => exact ⟨by simp, by simp⟩
        | true =>
          cases hn : numB kind n with
          | false => exact ⟨by simp, by simp⟩
          | true =>
            have hc := counts_is kids (deep + 1) (c + 1) (by omega) (by omega) (by omega) (by omega)
            simp only [Bool.not_true, Bool.or_self, Bool.true_and, Bool.false_eq_true, if_false]
            rw [show c + ((1 + nodess kids : Nat) : Int) = c + 1 + ((nodess kids : Nat) : Int) by omega]
            exact hc
theorem counts_is : ∀ (l : List S71) (deep c : Int), 0 ≤ deep → deep ≤ 100 → 0 ≤ c → c ≤ 400 → (countEs l deep c).1 = (rightEs l && (deepBs l deep && decide (c + ((nodess l : Nat) : Int) ≤ 400))) ∧ ((countEs l deep c).1 = true → (countEs l deep c).2 = c + ((nodess l : Nat) : Int))
  | [], deep, c, d0, d1, h0, h1 => by
    rw [countEs, rightEs, nodess, deepBs, decide_eq_true (by omega)]
    exact ⟨rfl, fun _ => by simp⟩
  | x :: r, deep, c, d0, d1, h0, h1 => by
    have hx := count_is x deep c d0 d1 h0 h1
    rw [countEs, rightEs, nodess, deepBs]
    generalize countE x deep c = q at hx
    obtain ⟨q1, q2⟩ := q
    simp only at hx
    obtain ⟨e1, e2⟩ := hx
    cases q1 with
    | false =>
      refine ⟨?_, by simp⟩
      simp only
      cases hb : rightE x with
      | false => simp
      | true =>
        cases hd : deepB x deep with
        | false => simp
        | true =>
          rw [hb, hd, Bool.true_and, Bool.true_and] at e1
          have := of_decide_eq_false e1.symm
          rw [decide_eq_false (by omega)]
          simp
    | true =>
      have e3 := e2 rfl
      subst e3
      have e4 := Bool.and_eq_true_iff.1 e1.symm
      have e6 := Bool.and_eq_true_iff.1 e4.2
      have e5 := of_decide_eq_true e6.2
      have hr := counts_is r deep (c + ((nodes x : Nat) : Int)) d0 d1 (by omega) e5
      rw [e4.1, e6.1, Bool.true_and, Bool.true_and]
      rw [show c + ((nodes x + nodess r : Nat) : Int) = c + ((nodes x : Nat) : Int) + ((nodess r : Nat) : Int) by omega]
      exact hr
end
/-- what both answer -/
def exB (a b : Int) (l : List S71) : Bool := rightE ⟨a, b, l⟩ && (deepB ⟨a, b, l⟩ 1 && decide (((nodes ⟨a, b, l⟩ : Nat) : Int) ≤ 400))
theorem exOK_same (n : Nat) (a b : Int) (l : List S71) (h : HL n l) : Ev (fun k => spec_ExOK.f k a b l) (exB a b l) := by
  unfold exB
  obtain ⟨v, _, _, hv, e1, _⟩ := left_is n a b l h 1 (by omega) (by omega) 400 (by omega) (by omega)
  refine bnd hv ?_
  by_cases hs : v ≥ 0
  · have := e1.1 hs
    rw [this.1, decide_eq_true this.2, Bool.and_true, Bool.and_true]
    exact ifp hs (sm _)
  · cases hd : deepB ⟨a, b, l⟩ 1 with
    | false =>
      rw [Bool.false_and, Bool.and_false]
      exact ifn hs (sm _)
    | true =>
      rw [decide_eq_false (fun x => hs (e1.2 ⟨hd, x⟩)), Bool.and_false, Bool.and_false]
      exact ifn hs (sm _)
theorem isEx_is (a b : Int) (l : List S71) : impl_isEx.f a b l = some (exB a b l) := by
  unfold impl_isEx.f exB
  rw [(count_is ⟨a, b, l⟩ 1 0 (by omega) (by omega) (by omega) (by omega)).1]
  simp

theorem FnExactExOK : laws_FnExactExOK.Pure := by
  intro a0 a1 l h0 h1 hl
  refine Ev.rounds ?_
  obtain ⟨v, hv⟩ := sz_is a0 a1 l hl
  by_cases hs : v < 0
  · exact bnd hv (ifp hs (sm _))
  · refine bnd hv (ifn hs ?_)
    obtain ⟨n, hn⟩ := wl_of hl
    have hL := HL_cv n l hn
    have hto := to_is a0 a1 l hl
    refine bnd hto (bnd (exOK_same n a0 a1 (l.map cv) hL) (bnd hto ?_))
    have hi : impl_ExOK.f a0 a1 (l.map cv) = some (exB a0 a1 (l.map cv)) := by
      unfold impl_ExOK.f
      rw [isEx_is]
      rfl
    refine bnd0 hi (ifn (by simp) (bnd hto (bnd (eq_self n _ _ _ hL) (ifp rfl (sm _)))))

end Go.Proofs.Ytdmeonkkbihbhaa.Pure
