/- FnExactAtMostEx: the pure statement behind the law: the program and the reference tell by the same expression that at most so many are true. No conditions. -/
import Derived.Test.YtcmkkoggdcjceaaDefFnExactAtMostEx
import Derived.Test.YtcmkkoggdcjceaaPlain
set_option linter.unusedVariables false
set_option linter.unusedSimpArgs false
namespace Go.Proofs.Ytcmkkoggdcjceaa.Pure
open Go.RowKit Go.Proofs.Ytcmkkoggdcjceaa Go.Proofs.Ytcmkkoggdcjceaa.PFnExactAtMostEx Go.Proofs.YtcmkkoggdcjceaaW.PrintWords Go.Proofs.YtcmkkoggdcjceaaW.PrintLast Go.Proofs.Ytcmkkoggdcjceaa.Plain

/-! a tree of type Ex: its bounds, the program's own copy of it, and the functions sz, to and eq -/
theorem u_num {x : Int} (h : Reads.WFI x) : -9223372036854775808 ≤ x ∧ x ≤ 9223372036854775807 := h
mutual
def cv : S24 → S31
  | ⟨a, b, l⟩ => ⟨a, b, cvs l⟩
def cvs : List S24 → List S31
  | [] => []
  | x :: r => cv x :: cvs r
end
theorem cvs_map (l : List S24) : cvs l = l.map cv := by
  induction l with
  | nil => rfl
  | cons x r ih => rw [cvs, List.map_cons, ih]
theorem cv_0 (x : S24) : (cv x).f0 = x.f0 := by
  obtain ⟨a, b, l⟩ := x
  rw [cv]
theorem cv_1 (x : S24) : (cv x).f1 = x.f1 := by
  obtain ⟨a, b, l⟩ := x
  rw [cv]
theorem cv_2 (x : S24) : (cv x).f2 = x.f2.map cv := by
  obtain ⟨a, b, l⟩ := x
  rw [cv]
  exact cvs_map l
theorem cv_mk (x : S24) : (⟨x.f0, x.f1, x.f2.map cv⟩ : S31) = cv x := by
  obtain ⟨a, b, l⟩ := x
  rw [cv, cvs_map]
abbrev WL (n : Nat) (l : List S24) : Prop := Reads.WFL 40 (wf24N n) l
theorem wl_le {n m : Nat} (h : n ≤ m) : ∀ x, wf24N n x → wf24N m x := by
  induction n generalizing m with
  | zero => exact fun x hx => hx.elim
  | succ n ih =>
    intro x hx
    cases m with
    | zero => omega
    | succ m => exact ⟨hx.1, hx.2.1, hx.2.2.1, fun y hy => ih (by omega) y (hx.2.2.2 y hy)⟩
theorem wl_of {l : List S24} (h : Reads.WFL 40 wf24 l) : ∃ n, WL n l := by
  have : ∀ l : List S24, (∀ x ∈ l, wf24 x) → ∃ n, ∀ x ∈ l, wf24N n x := by
    intro l
    induction l with
    | nil => exact fun _ => ⟨0, fun x hx => by cases hx⟩
    | cons a r ih =>
      intro h
      obtain ⟨n, hn⟩ := ih fun x hx => h x (List.mem_cons_of_mem _ hx)
      obtain ⟨m, hm⟩ := h a List.mem_cons_self
      refine ⟨n + m, fun x hx => ?_⟩
      rcases List.mem_cons.1 hx with rfl | hx
      · exact wl_le (by omega) _ hm
      · exact wl_le (by omega) _ (hn x hx)
  obtain ⟨n, hn⟩ := this l h.2
  exact ⟨n, h.1, hn⟩
theorem szS_is (n : Nat) : ∀ l, WL n l → ∀ left : Int, 0 ≤ left → left ≤ 1048576 → ∃ v : Int, -1 ≤ v ∧ v ≤ 1048576 ∧ Ev (fun k => laws_szExS.f k l left) v := by
  induction n with
  | zero =>
    intro l h left h0 h1
    cases l with
    | cons x r => exact (h.2 x List.mem_cons_self).elim
    | nil =>
      refine ⟨left, by omega, h1, stp (fun k => laws_szExS.f.eq_2 ..) ?_⟩
      rw [show wrap64 (left - (([] : List S24).length : Int)) = left by simp; exact w64 (by omega) (by omega)]
      exact ifn (by omega) (stp (fun k => laws_szExS.l0.eq_2 ..) (ifn (by simp) (sm _)))
  | succ n ih =>
    intro l h left h0 h1
    have hl : l.length * 40 ≤ 140737488351232 := h.1
    by_cases hs : left - (l.length : Int) < 0
    · exact ⟨-1, by omega, by omega, stp (fun k => laws_szExS.f.eq_2 ..) (ifp (by rw [w64 (by omega) (by omega)]; exact hs) (sm _))⟩
    · have key : ∀ (d i : Nat) (lf : Int), i + d = l.length → 0 ≤ lf → lf ≤ 1048576 → ∃ v : Int, -1 ≤ v ∧ v ≤ 1048576 ∧ Ev (fun k => laws_szExS.l0 k l lf (i : Int)) v := by
        intro d
        induction d with
        | zero =>
          intro i lf hi hf0 hf1
          exact ⟨lf, by omega, hf1, stp (fun k => laws_szExS.l0.eq_2 ..) (ifn (by omega) (sm _))⟩
        | succ d ihd =>
          intro i lf hi hf0 hf1
          have hil : i < l.length := by omega
          have hx : l[i]? = some l[i] := List.getElem?_eq_getElem hil
          have hw := h.2 l[i] (List.getElem_mem hil)
          obtain ⟨v, hv0, hv1, hv⟩ := ih l[i].f2 hw.2.2 lf hf0 hf1
          by_cases hn : v < 0
          · refine ⟨-1, by omega, by omega, stp (fun k => laws_szExS.l0.eq_2 ..) (ifp (by omega) (ifp (by omega) ?_))⟩
            rw [show rd_T24 l (i : Int) = l[i] from getD_some hx]
            exact bnd (a := -1) (bnd hv (ifp hn (sm _))) (ifp (by omega) (sm _))
          · obtain ⟨u, hu0, hu1, hu⟩ := ihd (i + 1) v (by omega) (by omega) hv1
            rw [show ((i + 1 : Nat) : Int) = (i : Int) + 1 by omega] at hu
            refine ⟨u, hu0, hu1, stp (fun k => laws_szExS.l0.eq_2 ..) (ifp (by omega) (ifp (by omega) ?_))⟩
            rw [show rd_T24 l (i : Int) = l[i] from getD_some hx, up (by omega) (by omega : (i : Int) < (l.length : Int)) (by omega)]
            exact bnd (a := v) (bnd hv (ifn hn (sm _))) (ifn hn hu)
      obtain ⟨v, hv0, hv1, hev⟩ := key l.length 0 (left - (l.length : Int)) (by omega) (by omega) (by omega)
      refine ⟨v, hv0, hv1, stp (fun k => laws_szExS.f.eq_2 ..) (ifn (by rw [w64 (by omega) (by omega)]; exact hs) ?_)⟩
      rw [w64 (by omega) (by omega)]
      exact hev
theorem sz_is (a b : Int) (l : List S24) (h : Reads.WFL 40 wf24 l) : ∃ v : Int, Ev (fun k => laws_szEx.f k a b l 1048576) v := by
  obtain ⟨n, hn⟩ := wl_of h
  obtain ⟨v, _, _, hv⟩ := szS_is n l hn 1048576 (by omega) (by omega)
  by_cases hs : v < 0
  · exact ⟨-1, bnd hv (ifp hs (sm _))⟩
  · exact ⟨v, bnd hv (ifn hs (sm _))⟩
theorem toS_is (n : Nat) : ∀ l, WL n l → Ev (fun k => laws_toExS.f k l) (l.map cv) := by
  induction n with
  | zero =>
    intro l h
    cases l with
    | cons x r => exact (h.2 x List.mem_cons_self).elim
    | nil => exact stp (fun k => laws_toExS.f.eq_2 ..) (ifp (by simp) (ifp (by simp) (stp (fun k => laws_toExS.l0.eq_2 ..) (ifn (by simp) (sm _)))))
  | succ n ih =>
    intro l h
    have hl : l.length * 40 ≤ 140737488351232 := h.1
    refine stp (fun k => laws_toExS.f.eq_2 ..) (ifp (by omega) (ifp (by omega) ?_))
    refine copy cv l (fun i out k => laws_toExS.l0 k l out i) ?_ ?_ (List.replicate (l.length : Int).toNat z31) (by simp)
    · intro out
      exact stp (fun k => laws_toExS.l0.eq_2 ..) (ifn (by omega) (sm _))
    · intro i out r x hx hlen hk
      have hi : i < l.length := (List.getElem?_eq_some_iff.1 hx).1
      have hw := h.2 x (List.mem_of_getElem? hx)
      refine stp (fun k => laws_toExS.l0.eq_2 ..) (ifp (by omega) (ifp (by omega) ?_))
      rw [show rd_T24 l (i : Int) = x from getD_some hx, up (by omega) (by omega : (i : Int) < (l.length : Int)) (by omega), Int.toNat_natCast]
      refine bnd (a := (x.f0, x.f1, x.f2.map cv)) (bnd (ih x.f2 hw.2.2) (sm _)) (ifp (by omega) ?_)
      show Ev (fun k => laws_toExS.l0 k l (out.set i ⟨x.f0, x.f1, x.f2.map cv⟩) ((i : Int) + 1)) r
      rw [cv_mk]
      exact hk
theorem to_is (a b : Int) (l : List S24) (h : Reads.WFL 40 wf24 l) : Ev (fun k => laws_toEx.f k a b l) (a, b, l.map cv) := by
  obtain ⟨n, hn⟩ := wl_of h
  exact bnd (toS_is n l hn) (sm _)
/-- a tree of the program's kind within its bounds -/
def HN : Nat → S31 → Prop
  | 0, _ => False
  | n + 1, x => Reads.WFI x.f0 ∧ (Reads.WFI x.f1 ∧ Reads.WFL 40 (HN n) x.f2)
abbrev HL (n : Nat) (l : List S31) : Prop := Reads.WFL 40 (HN n) l
theorem HN_cv (n : Nat) : ∀ x, wf24N n x → HN n (cv x) := by
  induction n with
  | zero => exact fun x h => h.elim
  | succ n ih =>
    intro x h
    refine ⟨by rw [cv_0]; exact h.1, by rw [cv_1]; exact h.2.1, ?_⟩
    rw [cv_2]
    refine ⟨by simpa using h.2.2.1, fun y hy => ?_⟩
    obtain ⟨z, hz, rfl⟩ := List.mem_map.1 hy
    exact ih z (h.2.2.2 z hz)
theorem HL_cv (n : Nat) (l : List S24) (h : WL n l) : HL n (l.map cv) := by
  refine ⟨by simpa using h.1, fun y hy => ?_⟩
  obtain ⟨z, hz, rfl⟩ := List.mem_map.1 hy
  exact HN_cv n z (h.2 z hz)
theorem eqS_self (n : Nat) : ∀ l, HL n l → Ev (fun k => laws_eqExS.f k l l) true := by
  induction n with
  | zero =>
    intro l h
    cases l with
    | cons x r => exact (h.2 x List.mem_cons_self).elim
    | nil => exact stp (fun k => laws_eqExS.f.eq_2 ..) (ifp rfl (stp (fun k => laws_eqExS.l0.eq_2 ..) (ifn (by simp) (sm _))))
  | succ n ih =>
    intro l h
    have hl : l.length * 40 ≤ 140737488351232 := h.1
    refine stp (fun k => laws_eqExS.f.eq_2 ..) (ifp rfl ?_)
    refine same l (fun i k => laws_eqExS.l0 k l l i) ?_ ?_
    · exact stp (fun k => laws_eqExS.l0.eq_2 ..) (ifn (by omega) (sm _))
    · intro i x hx hk
      have hi : i < l.length := (List.getElem?_eq_some_iff.1 hx).1
      have hw := h.2 x (List.mem_of_getElem? hx)
      refine stp (fun k => laws_eqExS.l0.eq_2 ..) (ifp (by omega) (ifp (by omega) (ifp (by omega) ?_)))
      rw [show rd_T31 l (i : Int) = x from getD_some hx, up (by omega) (by omega : (i : Int) < (l.length : Int)) (by omega)]
      exact bnd (a := true) (ifp rfl (ifp rfl (bnd (ih x.f2 hw.2.2) (ifp rfl (sm _))))) (ifp rfl hk)
theorem eq_self (n : Nat) (a b : Int) (l : List S31) (h : HL n l) : Ev (fun k => laws_eqEx.f k a b l a b l) true := ifp rfl (ifp rfl (bnd (eqS_self n l h) (ifp rfl (sm _))))
mutual
/-- how many nodes a tree has -/
def nodes : S31 → Nat
  | ⟨_, _, l⟩ => 1 + nodess l
def nodess : List S31 → Nat
  | [] => 0
  | x :: r => nodes x + nodess r
end
theorem nodes_pos (x : S31) : 1 ≤ nodes x := by
  obtain ⟨a, b, l⟩ := x
  rw [nodes]
  omega
theorem eta (x : S31) : (⟨x.f0, x.f1, x.f2⟩ : S31) = x := by
  obtain ⟨a, b, l⟩ := x
  rfl
mutual
/-- nothing stands too deep -/
def deepB : S31 → Int → Bool
  | ⟨_, _, l⟩, d => decide (d ≤ 40) && deepBs l (d + 1)
def deepBs : List S31 → Int → Bool
  | [], _ => true
  | x :: r, d => deepB x d && deepBs r d
end
theorem left_step (a b : Int) (l : List S31) (hl : l.length * 40 ≤ 140737488351232) (dp : Int) (hd0 : 0 ≤ dp) (hd1 : dp ≤ 40) (ih : ∀ x ∈ l, ∀ left : Int, 0 ≤ left → left ≤ 1048576 → ∃ v : Int, -1 ≤ v ∧ v ≤ 1048576 ∧ Ev (fun k => spec_l04Left.f k x.f0 x.f1 x.f2 left (dp + 1)) v ∧ (0 ≤ v ↔ (deepB x (dp + 1) = true ∧ ((nodes x : Nat) : Int) ≤ left)) ∧ (0 ≤ v → v = left - ((nodes x : Nat) : Int))) :
    ∀ (d i : Nat) (lf : Int), i + d = l.length → -1 ≤ lf → lf ≤ 1048576 → ∃ v : Int, -1 ≤ v ∧ v ≤ 1048576 ∧ Ev (fun k => spec_l04Left.l0 k lf dp (i : Int) a b l) v ∧ (0 ≤ v ↔ (deepBs (l.drop i) (dp + 1) = true ∧ ((nodess (l.drop i) : Nat) : Int) ≤ lf)) ∧ (0 ≤ v → v = lf - ((nodess (l.drop i) : Nat) : Int)) := by
  intro d
  induction d with
  | zero =>
    intro i lf hi hf0 hf1
    obtain rfl : i = l.length := by omega
    refine ⟨lf, hf0, hf1, stp (fun k => spec_l04Left.l0.eq_2 ..) (ifn (by omega) (sm _)), ?_, ?_⟩
    · rw [List.drop_length, nodess, deepBs]
      simp
    · rw [List.drop_length, nodess]
      omega
  | succ d ihd =>
    intro i lf hi hf0 hf1
    have hil : i < l.length := by omega
    have hx : l[i]? = some l[i] := List.getElem?_eq_getElem hil
    rw [List.drop_eq_getElem_cons hil, nodess, deepBs]
    have hp := nodes_pos l[i]
    by_cases hneg : lf ≥ 0
    · obtain ⟨v, hv0, hv1, hv, hv2, hv3⟩ := ih l[i] (List.getElem_mem hil) lf hneg hf1
      obtain ⟨u, hu0, hu1, hu, hu2, hu3⟩ := ihd (i + 1) v (by omega) hv0 hv1
      refine ⟨u, hu0, hu1, stp (fun k => spec_l04Left.l0.eq_2 ..) (ifp (by omega) (ifp hneg (ifp (by omega) ?_))), ?_, ?_⟩
      · rw [show rd_T31 l (i : Int) = l[i] from getD_some hx, up (by omega) (by omega : (i : Int) < (l.length : Int)) (by omega), w64 (x := dp + 1) (by omega) (by omega)]
        rw [show ((i + 1 : Nat) : Int) = (i : Int) + 1 by omega] at hu
        exact bnd hv hu
      · rw [Bool.and_eq_true, hu2]
        constructor
        · rintro ⟨h1, h2⟩
          have hv' := hv2.1 (by omega)
          have := hv3 (by omega)
          exact ⟨⟨hv'.1, h1⟩, by omega⟩
        · rintro ⟨⟨h1, h2⟩, h3⟩
          have h4 := hv2.2 ⟨h1, by omega⟩
          have := hv3 h4
          exact ⟨h2, by omega⟩
      · intro h
        have h1 := hu2.1 h
        have h2 := hv3 (by omega)
        have := hu3 h
        omega
    · refine ⟨lf, hf0, hf1, stp (fun k => spec_l04Left.l0.eq_2 ..) (ifp (by omega) (ifn hneg (sm _))), ?_, ?_⟩
      · constructor
        · intro h
          omega
        · rintro ⟨_, h⟩
          omega
      · omega
theorem left_is (n : Nat) : ∀ (a b : Int) (l : List S31), HL n l → ∀ dp : Int, 0 ≤ dp → dp ≤ 100 → ∀ left : Int, 0 ≤ left → left ≤ 1048576 → ∃ v : Int, -1 ≤ v ∧ v ≤ 1048576 ∧ Ev (fun k => spec_l04Left.f k a b l left dp) v ∧ (0 ≤ v ↔ (deepB ⟨a, b, l⟩ dp = true ∧ ((nodes ⟨a, b, l⟩ : Nat) : Int) ≤ left)) ∧ (0 ≤ v → v = left - ((nodes ⟨a, b, l⟩ : Nat) : Int)) := by
  induction n with
  | zero =>
    intro a b l h dp hd0 hd1 left h0 h1
    by_cases hdp : dp > 40
    · refine ⟨-1, by omega, by omega, stp (fun k => spec_l04Left.f.eq_2 ..) (ifp hdp (sm _)), ?_, by omega⟩
      rw [deepB, decide_eq_false (by omega)]
      simp
    · obtain ⟨v, hv0, hv1, hev, h2, h3⟩ := left_step a b l h.1 dp hd0 (by omega) (fun x hx => (h.2 x hx).elim) l.length 0 (left - 1) (by omega) (by omega) (by omega)
      rw [List.drop_zero] at h2 h3
      refine ⟨v, hv0, hv1, stp (fun k => spec_l04Left.f.eq_2 ..) (ifn hdp ?_), ?_, ?_⟩
      · rw [w64 (by omega) (by omega)]
        exact hev
      · rw [nodes, deepB, decide_eq_true (by omega : dp ≤ 40), Bool.true_and, h2]
        constructor
        · rintro ⟨q1, q2⟩; exact ⟨q1, by omega⟩
        · rintro ⟨q1, q2⟩; exact ⟨q1, by omega⟩
      · rw [nodes]
        omega
  | succ n ih =>
    intro a b l h dp hd0 hd1 left h0 h1
    by_cases hdp : dp > 40
    · refine ⟨-1, by omega, by omega, stp (fun k => spec_l04Left.f.eq_2 ..) (ifp hdp (sm _)), ?_, by omega⟩
      rw [deepB, decide_eq_false (by omega)]
      simp
    · obtain ⟨v, hv0, hv1, hev, h2, h3⟩ := left_step a b l h.1 dp hd0 (by omega) (fun x hx left q0 q1 => by
        have := ih x.f0 x.f1 x.f2 (h.2 x hx).2.2 (dp + 1) (by omega) (by omega) left q0 q1
        rwa [eta x] at this) l.length 0 (left - 1) (by omega) (by omega) (by omega)
      rw [List.drop_zero] at h2 h3
      refine ⟨v, hv0, hv1, stp (fun k => spec_l04Left.f.eq_2 ..) (ifn hdp ?_), ?_, ?_⟩
      · rw [w64 (by omega) (by omega)]
        exact hev
      · rw [nodes, deepB, decide_eq_true (by omega : dp ≤ 40), Bool.true_and, h2]
        constructor
        · rintro ⟨q1, q2⟩; exact ⟨q1, by omega⟩
        · rintro ⟨q1, q2⟩; exact ⟨q1, by omega⟩
      · rw [nodes]
        omega
mutual
theorem count_is : ∀ (y : S31) (deep c : Int), 0 ≤ deep → deep ≤ 100 → 0 ≤ c → c ≤ 400 → (countE y deep c).1 = (rightE y && (deepB y deep && decide (c + ((nodes y : Nat) : Int) ≤ 400))) ∧ ((countE y deep c).1 = true → (countE y deep c).2 = c + ((nodes y : Nat) : Int))
  | ⟨kind, n, kids⟩, deep, c, d0, d1, h0, h1 => by
    rw [countE, rightE, nodes, deepB, w64 (x := c + 1) (by omega) (by omega), w64 (x := deep + 1) (by omega) (by omega)]
    by_cases t1 : c + 1 > 400
    · rw [decide_eq_true t1, Bool.true_or, if_pos rfl]
      have : ¬ (c + ((1 + nodess kids : Nat) : Int) ≤ 400) := by omega
      rw [decide_eq_false this]
      exact ⟨by simp, by simp⟩
    · rw [decide_eq_false t1, Bool.false_or]
      by_cases t2 : deep > 40
      · rw [decide_eq_true t2, Bool.true_or, if_pos rfl, decide_eq_false (by omega : ¬ deep ≤ 40)]
        exact ⟨by simp, by simp⟩
      · rw [decide_eq_false t2, Bool.false_or, decide_eq_true (by omega : deep ≤ 40)]
        cases hm : ((kids.length : Int) == kidsM kind) with
        | false => exact ⟨by simp, by simp⟩
        | true =>
          cases hn : numB kind n with
          | false => exact ⟨by simp, by simp⟩
          | true =>
            have hc := counts_is kids (deep + 1) (c + 1) (by omega) (by omega) (by omega) (by omega)
            simp only [Bool.not_true, Bool.or_self, Bool.true_and, Bool.false_eq_true, if_false]
            rw [show c + ((1 + nodess kids : Nat) : Int) = c + 1 + ((nodess kids : Nat) : Int) by omega]
            exact hc
theorem counts_is : ∀ (l : List S31) (deep c : Int), 0 ≤ deep → deep ≤ 100 → 0 ≤ c → c ≤ 400 → (countEs l deep c).1 = (rightEs l && (deepBs l deep && decide (c + ((nodess l : Nat) : Int) ≤ 400))) ∧ ((countEs l deep c).1 = true → (countEs l deep c).2 = c + ((nodess l : Nat) : Int))
  | [], deep, c, d0, d1, h0, h1 => by
    rw [countEs, rightEs, nodess, deepBs, decide_eq_true (by omega)]
    exact ⟨rfl, fun _ => by simp⟩
  | x :: r, deep, c, d0, d1, h0, h1 => by
    have hx := count_is x deep c d0 d1 h0 h1
    rw [countEs, rightEs, nodess, deepBs]
    generalize countE x deep c = q at hx
    obtain ⟨q1, q2⟩ := q
    simp only at hx
    obtain ⟨e1, e2⟩ := hx
    cases q1 with
    | false =>
      refine ⟨?_, by simp⟩
      simp only
      cases hb : rightE x with
      | false => simp
      | true =>
        cases hd : deepB x deep with
        | false => simp
        | true =>
          rw [hb, hd, Bool.true_and, Bool.true_and] at e1
          have := of_decide_eq_false e1.symm
          rw [decide_eq_false (by omega)]
          simp
    | true =>
      have e3 := e2 rfl
      subst e3
      have e4 := Bool.and_eq_true_iff.1 e1.symm
      have e6 := Bool.and_eq_true_iff.1 e4.2
      have e5 := of_decide_eq_true e6.2
      have hr := counts_is r deep (c + ((nodes x : Nat) : Int)) d0 d1 (by omega) e5
      rw [e4.1, e6.1, Bool.true_and, Bool.true_and]
      rw [show c + ((nodes x + nodess r : Nat) : Int) = c + ((nodes x : Nat) : Int) + ((nodess r : Nat) : Int) by omega]
      exact hr
end
/-- what both answer -/
def exB (a b : Int) (l : List S31) : Bool := rightE ⟨a, b, l⟩ && (deepB ⟨a, b, l⟩ 1 && decide (((nodes ⟨a, b, l⟩ : Nat) : Int) ≤ 400))
theorem exOK_same (n : Nat) (a b : Int) (l : List S31) (h : HL n l) : Ev (fun k => spec_ExOK.f k a b l) (exB a b l) := by
  unfold exB
  obtain ⟨v, _, _, hv, e1, _⟩ := left_is n a b l h 1 (by omega) (by omega) 400 (by omega) (by omega)
  refine bnd hv ?_
  by_cases hs : v ≥ 0
  · have := e1.1 hs
    rw [this.1, decide_eq_true this.2, Bool.and_true, Bool.and_true]
    exact ifp hs (sm _)
  · cases hd : deepB ⟨a, b, l⟩ 1 with
    | false =>
      rw [Bool.false_and, Bool.and_false]
      exact ifn hs (sm _)
    | true =>
      rw [decide_eq_false (fun x => hs (e1.2 ⟨hd, x⟩)), Bool.and_false, Bool.and_false]
      exact ifn hs (sm _)
theorem isEx_is (a b : Int) (l : List S31) : impl_isEx.f a b l = some (exB a b l) := by
  unfold impl_isEx.f exB
  rw [(count_is ⟨a, b, l⟩ 1 0 (by omega) (by omega) (by omega) (by omega)).1]
  simp
/-! expressions that are built: copies, marks, sizes, rows of bits (behind tree:Ex and exok) -/
/-- within bounds at some depth -/
def HX (x : S31) : Prop := ∃ n, HN n x
theorem HN_le {n m : Nat} (h : n ≤ m) : ∀ x, HN n x → HN m x := by
  induction n generalizing m with
  | zero => exact fun x hx => hx.elim
  | succ n ih =>
    intro x hx
    cases m with
    | zero => omega
    | succ m => exact ⟨hx.1, hx.2.1, hx.2.2.1, fun y hy => ih (by omega) y (hx.2.2.2 y hy)⟩
theorem HL_of {l : List S31} (hl : l.length * 40 ≤ 140737488351232) (h : ∀ x ∈ l, HX x) : ∃ n, HL n l := by
  have : ∀ l : List S31, (∀ x ∈ l, HX x) → ∃ n, ∀ x ∈ l, HN n x := by
    intro l
    induction l with
    | nil => exact fun _ => ⟨0, fun x hx => by cases hx⟩
    | cons a r ih =>
      intro h
      obtain ⟨n, hn⟩ := ih fun x hx => h x (List.mem_cons_of_mem _ hx)
      obtain ⟨m, hm⟩ := h a List.mem_cons_self
      refine ⟨n + m, fun x hx => ?_⟩
      rcases List.mem_cons.1 hx with rfl | hx
      · exact HN_le (by omega) _ hm
      · exact HN_le (by omega) _ (hn x hx)
  obtain ⟨n, hn⟩ := this l h
  exact ⟨n, hl, hn⟩
theorem HX_mk {a b : Int} {l : List S31} (ha : Reads.WFI a) (hb : Reads.WFI b) (hl : l.length * 40 ≤ 140737488351232) (h : ∀ x ∈ l, HX x) : HX ⟨a, b, l⟩ := by
  obtain ⟨n, hn⟩ := HL_of hl h
  exact ⟨n + 1, ha, hb, hn⟩
theorem HX_kids {x : S31} (h : HX x) : ∃ n, HL n x.f2 := by
  obtain ⟨n, h⟩ := h
  cases n with
  | zero => exact h.elim
  | succ n => exact ⟨n, h.2.2⟩
theorem HL_mem {n : Nat} {l : List S31} (h : HL n l) {x : S31} (hx : x ∈ l) : HX x := ⟨n, h.2 x hx⟩
theorem wfi_small {x : Int} (h0 : -1000000 ≤ x) (h1 : x ≤ 1000000) : Reads.WFI x := (⟨by omega, by omega⟩ : -9223372036854775808 ≤ x ∧ x ≤ 9223372036854775807)
/-- an expression of kids -/
def exk (k : Int) (l : List S31) : S31 := ⟨k, 0, l⟩
/-- a constant -/
def exc (n : Int) : S31 := ⟨2, n, []⟩
theorem HX_exk {k : Int} {l : List S31} (h0 : 0 ≤ k) (h1 : k ≤ 100) (hl : l.length ≤ 100) (h : ∀ x ∈ l, HX x) : HX (exk k l) := HX_mk (wfi_small (by omega) (by omega)) (wfi_small (by omega) (by omega)) (by omega) h
theorem HX_exk1 {k : Int} {x : S31} (h0 : 0 ≤ k) (h1 : k ≤ 100) (hx : HX x) : HX (exk k [x]) := HX_exk h0 h1 (by simp) (by intro y hy; rw [List.mem_singleton] at hy; subst hy; exact hx)
theorem HX_exk2 {k : Int} {x y : S31} (h0 : 0 ≤ k) (h1 : k ≤ 100) (hx : HX x) (hy : HX y) : HX (exk k [x, y]) := HX_exk h0 h1 (by simp) (by
  intro z hz
  rcases List.mem_cons.1 hz with rfl | hz
  · exact hx
  · rw [List.mem_singleton] at hz; subst hz; exact hy)
theorem HX_exk3 {k : Int} {x y z : S31} (h0 : 0 ≤ k) (h1 : k ≤ 100) (hx : HX x) (hy : HX y) (hz : HX z) : HX (exk k [x, y, z]) := HX_exk h0 h1 (by simp) (by
  intro u hu
  rcases List.mem_cons.1 hu with rfl | hu
  · exact hx
  · rcases List.mem_cons.1 hu with rfl | hu
    · exact hy
    · rw [List.mem_singleton] at hu; subst hu; exact hz)
theorem HX_exc {n : Int} (h0 : -1000000 ≤ n) (h1 : n ≤ 1000000) : HX (exc n) := HX_mk (wfi_small (by omega) (by omega)) (wfi_small h0 h1) (by simp) (by intro x hx; cases hx)
/-- whether an expression is right -/
def exX (x : S31) : Bool := exB x.f0 x.f1 x.f2
theorem okX {x : S31} (h : HX x) : Ev (fun k => spec_ExOK.f k x.f0 x.f1 x.f2) (exX x) := by
  obtain ⟨n, hn⟩ := HX_kids h
  exact exOK_same n x.f0 x.f1 x.f2 hn
theorem isX (x : S31) : impl_isEx.f x.f0 x.f1 x.f2 = some (exX x) := isEx_is x.f0 x.f1 x.f2
theorem exI_X (x : S31) : exI x = exX x := by
  have h := isEx_is x.f0 x.f1 x.f2
  unfold impl_isEx.f at h
  rw [eta] at h
  exact Option.some.inj h
theorem nodes_X {x : S31} (h : exX x = true) : nodes x ≤ 400 := by
  unfold exX exB at h
  rw [Bool.and_eq_true, Bool.and_eq_true, decide_eq_true_eq, eta] at h
  omega
-- sizes that are known
mutual
theorem nT_nodes : ∀ x : S31, nT x = nodes x
  | ⟨_, _, l⟩ => by rw [nT, nodes, nL_nodess l]
theorem nL_nodess : ∀ l : List S31, nL l = nodess l
  | [] => by rw [nL, nodess]
  | x :: r => by rw [nL, nodess, nT_nodes x, nL_nodess r]
end
theorem nL_X {x : S31} (h : exX x = true) : nL x.f2 ≤ 400 := by
  have h1 := nodes_X h
  rw [← nT_nodes, nT_eq] at h1
  omega
theorem szX_is (n : Nat) : ∀ l, WL n l → ∀ left : Int, 0 ≤ left → left ≤ 1048576 → ∃ v : Int, -1 ≤ v ∧ v ≤ 1048576 ∧ Ev (fun k => laws_szExS.f k l left) v ∧ (0 ≤ v → v = left - ((nL (l.map cv) : Nat) : Int)) := by
  induction n with
  | zero =>
    intro l h left h0 h1
    cases l with
    | cons x r => exact (h.2 x List.mem_cons_self).elim
    | nil =>
      refine ⟨left, by omega, h1, stp (fun k => laws_szExS.f.eq_2 ..) ?_, fun _ => by simp [nL]⟩
      rw [show wrap64 (left - (([] : List S24).length : Int)) = left by simp; exact w64 (by omega) (by omega)]
      exact ifn (by omega) (stp (fun k => laws_szExS.l0.eq_2 ..) (ifn (by simp) (sm _)))
  | succ n ih =>
    intro l h left h0 h1
    have hl : l.length * 40 ≤ 140737488351232 := h.1
    by_cases hs : left - (l.length : Int) < 0
    · exact ⟨-1, by omega, by omega, stp (fun k => laws_szExS.f.eq_2 ..) (ifp (by rw [w64 (by omega) (by omega)]; exact hs) (sm _)), by omega⟩
    · have key : ∀ (d i : Nat) (lf : Int), i + d = l.length → 0 ≤ lf → lf ≤ 1048576 → ∃ v : Int, -1 ≤ v ∧ v ≤ 1048576 ∧ Ev (fun k => laws_szExS.l0 k l lf (i : Int)) v ∧ (0 ≤ v → v = lf - (((nL ((l.drop i).map cv) : Nat) : Int) - (d : Int))) := by
        intro d
        induction d with
        | zero =>
          intro i lf hi hf0 hf1
          refine ⟨lf, by omega, hf1, stp (fun k => laws_szExS.l0.eq_2 ..) (ifn (by omega) (sm _)), fun _ => ?_⟩
          obtain rfl : i = l.length := by omega
          rw [List.drop_length, List.map_nil, nL]
          omega
        | succ d ihd =>
          intro i lf hi hf0 hf1
          have hil : i < l.length := by omega
          have hx : l[i]? = some l[i] := List.getElem?_eq_getElem hil
          have hw := h.2 l[i] (List.getElem_mem hil)
          obtain ⟨v, hv0, hv1, hv, hv2⟩ := ih l[i].f2 hw.2.2 lf hf0 hf1
          rw [List.drop_eq_getElem_cons hil, List.map_cons, nL, nT_eq, cv_2]
          by_cases hn : v < 0
          · refine ⟨-1, by omega, by omega, stp (fun k => laws_szExS.l0.eq_2 ..) (ifp (by omega) (ifp (by omega) ?_)), by omega⟩
            rw [show rd_T24 l (i : Int) = l[i] from getD_some hx]
            exact bnd (a := -1) (bnd hv (ifp hn (sm _))) (ifp (by omega) (sm _))
          · obtain ⟨u, hu0, hu1, hu, hu2⟩ := ihd (i + 1) v (by omega) (by omega) hv1
            rw [show ((i + 1 : Nat) : Int) = (i : Int) + 1 by omega] at hu
            refine ⟨u, hu0, hu1, stp (fun k => laws_szExS.l0.eq_2 ..) (ifp (by omega) (ifp (by omega) ?_)), fun hu3 => ?_⟩
            · rw [show rd_T24 l (i : Int) = l[i] from getD_some hx, up (by omega) (by omega : (i : Int) < (l.length : Int)) (by omega)]
              exact bnd (a := v) (bnd hv (ifn hn (sm _))) (ifn hn hu)
            · have := hu2 hu3
              have := hv2 (by omega)
              omega
      obtain ⟨v, hv0, hv1, hev, hv2⟩ := key l.length 0 (left - (l.length : Int)) (by omega) (by omega) (by omega)
      refine ⟨v, hv0, hv1, stp (fun k => laws_szExS.f.eq_2 ..) (ifn (by rw [w64 (by omega) (by omega)]; exact hs) ?_), fun h3 => ?_⟩
      · rw [w64 (by omega) (by omega)]
        exact hev
      · have := hv2 h3
        rw [List.drop_zero] at this
        omega
/-- marks are held -/
theorem heldS_is (n : Nat) : ∀ (l : List S31) (a : Int), nL l ≤ n → l.length * 40 ≤ 140737488351232 → 0 ≤ a → a + 2 * (nL l : Int) ≤ 4611686018427387904 → (∀ x ∈ l, HX x) → Ev (fun k => laws_heldExS.f k (mkL l a) a) (a + 2 * (nL l : Int)) := by
  induction n with
  | zero =>
    intro l a hn hl h0 h1 hx
    cases l with
    | cons x r => rw [nL, nT_eq] at hn; omega
    | nil =>
      rw [mkL, nL]
      refine stp (fun k => laws_heldExS.f.eq_2 ..) (stp (fun k => laws_heldExS.l0.eq_2 ..) (ifn (by simp) ?_))
      rw [show a + 2 * ((0 : Nat) : Int) = a by omega]
      exact sm _
  | succ n ih =>
    intro l a hn hl h0 h1 hx
    have hlen := mkL_length l a
    have key : ∀ (d i : Nat), i + d = l.length → Ev (fun k => laws_heldExS.l0 k (mkL l a) (a + 2 * (nL (l.take i) : Int)) (i : Int)) (a + 2 * (nL l : Int)) := by
      intro d
      induction d with
      | zero =>
        intro i hi
        refine stp (fun k => laws_heldExS.l0.eq_2 ..) (ifn (by omega) ?_)
        rw [List.take_of_length_le (by omega)]
        exact sm _
      | succ d ihd =>
        intro i hi
        have hil : i < l.length := by omega
        have hxi : l[i]? = some l[i] := List.getElem?_eq_getElem hil
        have hm := mkL_at l a i l[i] hxi
        have ht := nL_take l i l[i] hxi
        have hle := nL_take_le l (i + 1)
        have hk := nT_eq l[i]
        have hw := hx l[i] (List.getElem_mem hil)
        obtain ⟨q, hq⟩ := HX_kids hw
        have hrest := ihd (i + 1) (by omega)
        rw [show ((i + 1 : Nat) : Int) = (i : Int) + 1 by omega, ht] at hrest
        have hkid := ih l[i].f2 (a + 2 * (nL (l.take i) : Int) + 2) (by omega) hq.1 (by omega) (by omega) (fun x hx => HL_mem hq hx)
        have hrd : rd_T31 (mkL l a) (i : Int) = ⟨a + 2 * (nL (l.take i) : Int), a + 2 * (nL (l.take i) : Int) + 1, mkL l[i].f2 (a + 2 * (nL (l.take i) : Int) + 2)⟩ := by
          rw [← mkT_eq]
          exact getD_some hm
        refine stp (fun k => laws_heldExS.l0.eq_2 ..) (ifp (by omega) (ifp (by omega) ?_))
        rw [hrd]
        refine ifp rfl (ifp (by rw [w64 (by omega) (by omega)]) ?_)
        rw [w64 (x := a + 2 * (nL (l.take i) : Int) + 1) (by omega) (by omega), w64 (by omega) (by omega), up (by omega) (by omega : (i : Int) < (l.length : Int)) (by omega), show a + 2 * (nL (l.take i) : Int) + 1 + 1 = a + 2 * (nL (l.take i) : Int) + 2 by omega]
        refine bnd hkid (ifn (by omega) ?_)
        rw [show a + 2 * (nL (l.take i) : Int) + 2 + 2 * (nL l[i].f2 : Int) = a + 2 * ((nL (l.take i) + nT l[i] : Nat) : Int) by omega]
        exact hrest
    have := key l.length 0 (by omega)
    rw [List.take_zero, nL] at this
    refine stp (fun k => laws_heldExS.f.eq_2 ..) ?_
    rw [show a + 2 * ((0 : Nat) : Int) = a by omega] at this
    exact this
theorem held_is {x : S31} (h : HX x) (hn : nL x.f2 ≤ 1048576) (a b : Int) : Ev (fun k => laws_heldEx.f k a b (mkL x.f2 1) 1) (1 + 2 * (nL x.f2 : Int)) := by
  obtain ⟨q, hq⟩ := HX_kids h
  exact bnd (heldS_is _ x.f2 1 (Nat.le_refl _) hq.1 (by omega) (by omega) (fun x hx => HL_mem hq hx)) (ifn (by omega) (sm _))
theorem eqX_self {x : S31} (h : HX x) : Ev (fun k => laws_eqEx.f k x.f0 x.f1 x.f2 x.f0 x.f1 x.f2) true := by
  obtain ⟨q, hq⟩ := HX_kids h
  exact eq_self q _ _ _ hq
/-- copies -/
theorem appL {α ρ : Type} (xs : List α) (L : Int → List α → Nat → Option ρ) (r : ρ)
    (hend : Ev (L (xs.length : Int) xs) r)
    (hstep : ∀ (i : Nat) (x : α), xs[i]? = some x → Ev (L ((i : Int) + 1) (xs.take i ++ [x])) r → Ev (L (i : Int) (xs.take i)) r) : Ev (L 0 []) r := by
  have key : ∀ (d i : Nat), i + d = xs.length → Ev (L (i : Int) (xs.take i)) r := by
    intro d
    induction d with
    | zero =>
      intro i hd
      obtain rfl : i = xs.length := by omega
      rw [List.take_length]
      exact hend
    | succ d ih =>
      intro i hd
      have hi : i < xs.length := by omega
      refine hstep i xs[i] (List.getElem?_eq_getElem hi) ?_
      have := ih (i + 1) (by omega)
      rw [List.take_succ_eq_append_getElem hi] at this
      rwa [show ((i + 1 : Nat) : Int) = (i : Int) + 1 by omega] at this
  have := key xs.length 0 (by omega)
  rwa [List.take_zero] at this
theorem copyN (n : Nat) : ∀ (a b : Int) (l : List S31), HL n l → Ev (fun k => spec_l05Copy.f k a b l) (a, b, l) := by
  induction n with
  | zero =>
    intro a b l h
    cases l with
    | cons x r => exact (h.2 x List.mem_cons_self).elim
    | nil => exact stp (fun k => spec_l05Copy.f.eq_2 ..) (stp (fun k => spec_l05Copy.l0.eq_2 ..) (ifn (by simp) (sm _)))
  | succ n ih =>
    intro a b l h
    have hl : l.length * 40 ≤ 140737488351232 := h.1
    refine stp (fun k => spec_l05Copy.f.eq_2 ..) (appL l (fun i out k => spec_l05Copy.l0 k i a b l a b out) (a, b, l) ?_ ?_)
    · exact stp (fun k => spec_l05Copy.l0.eq_2 ..) (ifn (by omega) (sm _))
    · intro i x hx hk
      have hi : i < l.length := (List.getElem?_eq_some_iff.1 hx).1
      have hw := h.2 x (List.mem_of_getElem? hx)
      refine stp (fun k => spec_l05Copy.l0.eq_2 ..) (ifp (by omega) (ifp (by omega) ?_))
      rw [show rd_T31 l (i : Int) = x from getD_some hx, up (by omega) (by omega : (i : Int) < (l.length : Int)) (by omega)]
      refine bnd (ih x.f0 x.f1 x.f2 hw.2.2) (ifp (by rw [List.length_take]; omega) ?_)
      show Ev (fun k => spec_l05Copy.l0 k ((i : Int) + 1) a b l a b (l.take i ++ [⟨x.f0, x.f1, x.f2⟩])) (a, b, l)
      rw [eta]
      exact hk
theorem copyX {x : S31} (h : HX x) : Ev (fun k => spec_l05Copy.f k x.f0 x.f1 x.f2) (x.f0, x.f1, x.f2) := by
  obtain ⟨n, hn⟩ := HX_kids h
  exact copyN n _ _ _ hn
theorem cloneN (n : Nat) : ∀ (a b : Int) (l : List S31), HL n l → Ev (fun k => impl_cloneEx.f k a b l) (a, b, l) := by
  induction n with
  | zero =>
    intro a b l h
    cases l with
    | cons x r => exact (h.2 x List.mem_cons_self).elim
    | nil => exact stp (fun k => impl_cloneEx.f.eq_2 ..) (stp (fun k => impl_cloneEx.l0.eq_2 ..) (ifn (by simp) (sm _)))
  | succ n ih =>
    intro a b l h
    have hl : l.length * 40 ≤ 140737488351232 := h.1
    refine stp (fun k => impl_cloneEx.f.eq_2 ..) (appL l (fun i out k => impl_cloneEx.l0 k out l (l.length : Int) i a b l) (a, b, l) ?_ ?_)
    · exact stp (fun k => impl_cloneEx.l0.eq_2 ..) (ifn (by omega) (sm _))
    · intro i x hx hk
      have hi : i < l.length := (List.getElem?_eq_some_iff.1 hx).1
      have hw := h.2 x (List.mem_of_getElem? hx)
      refine stp (fun k => impl_cloneEx.l0.eq_2 ..) (ifp (by omega) (ifp (by omega) (ifp (by omega) ?_)))
      rw [show rd_T31 l (i : Int) = x from getD_some hx, up (by omega) (by omega : (i : Int) < (l.length : Int)) (by omega)]
      refine bnd (ih x.f0 x.f1 x.f2 hw.2.2) (ifp (by rw [List.length_take]; omega) ?_)
      show Ev (fun k => impl_cloneEx.l0 k (l.take i ++ [⟨x.f0, x.f1, x.f2⟩]) l (l.length : Int) ((i : Int) + 1) a b l) (a, b, l)
      rw [eta]
      exact hk
theorem cloneX {x : S31} (h : HX x) : Ev (fun k => impl_cloneEx.f k x.f0 x.f1 x.f2) (x.f0, x.f1, x.f2) := by
  obtain ⟨n, hn⟩ := HX_kids h
  exact cloneN n _ _ _ hn
/-- what is answered of an expression that has been made -/
def finX (x : S31) : Int × Int × List S31 × Int := if exX x = true then (x.f0, x.f1, x.f2, 0) else (0, 0, [], 11)
theorem finX_p {x : S31} (h : exX x = true) : finX x = (x.f0, x.f1, x.f2, 0) := if_pos h
theorem finX_n {x : S31} (h : ¬ exX x = true) : finX x = (0, 0, [], 11) := if_neg h
theorem checkedX {x : S31} (h : HX x) : Ev (fun k => impl_checkedEx.f k x.f0 x.f1 x.f2) (finX x) := by
  unfold finX
  refine bnd0 (isX x) ?_
  by_cases hx : exX x = true
  · rw [if_pos hx]
    exact ifp hx (bnd (cloneX h) (sm _))
  · rw [if_neg hx]
    exact ifn hx (sm _)
theorem fits_is (l : List S31) (hl : l.length * 40 ≤ 140737488351232) (h : ∀ x ∈ l, HX x) : Ev (fun k => spec_l05Fits.f k l) (l.all exX) := by
  refine allL l exX (fun i k => spec_l05Fits.l0 k l i) ?_ ?_
  · exact stp (fun k => spec_l05Fits.l0.eq_2 ..) (ifn (by omega) (sm _))
  · intro i x r hx hk
    have hi : i < l.length := (List.getElem?_eq_some_iff.1 hx).1
    refine stp (fun k => spec_l05Fits.l0.eq_2 ..) (ifp (by omega) (ifp (by omega) ?_))
    rw [show rd_T31 l (i : Int) = x from getD_some hx, up (by omega) (by omega : (i : Int) < (l.length : Int)) (by omega)]
    refine bnd (okX (h x (List.mem_of_getElem? hx))) ?_
    cases hb : exX x with
    | true => rw [Bool.true_and]; exact ifp rfl hk
    | false => rw [Bool.false_and]; exact ifn (by simp) (sm _)
theorem areX (l : List S31) : impl_areExs.f l = some (l.all exX) := by
  unfold impl_areExs.f
  rw [show exI = exX from funext exI_X]

theorem HX_mostE : ∀ (l : List S31) (k : Int), (∀ x ∈ l, HX x) → HX (mostE l k)
  | [], k, _ => by
    rw [mostE]
    split
    · exact HX_exc (n := 0) (by omega) (by omega)
    · exact HX_exc (n := 1) (by omega) (by omega)
  | x :: r, k, h => by
    rw [mostE]
    split
    · exact HX_exc (n := 0) (by omega) (by omega)
    · exact HX_exk3 (k := 7) (by omega) (by omega) (h x List.mem_cons_self) (HX_mostE r (k - 1) (fun y hy => h y (List.mem_cons_of_mem _ hy))) (HX_mostE r k (fun y hy => h y (List.mem_cons_of_mem _ hy)))
theorem copies : ∀ (l : List S31), (∀ x ∈ l, HX x) → ∃ K, ∀ n, K ≤ n → ∀ x ∈ l, spec_l05Copy.f n x.f0 x.f1 x.f2 = some (x.f0, x.f1, x.f2)
  | [], _ => ⟨0, fun _ _ x hx => by cases hx⟩
  | y :: r, h => by
    obtain ⟨K, hK⟩ := copies r (fun x hx => h x (List.mem_cons_of_mem _ hx))
    obtain ⟨M, hM⟩ := copyX (h y List.mem_cons_self)
    refine ⟨K + M, fun n hn x hx => ?_⟩
    rcases List.mem_cons.1 hx with rfl | hx
    · exact hM n (by omega)
    · exact hK n (by omega) x hx
theorem late {α : Type} {f g : Nat → Option α} {r : α} (h : ∃ K, ∀ n, K ≤ n → f n = g n) (k : Ev g r) : Ev f r := by
  obtain ⟨K, hK⟩ := h
  obtain ⟨M, hM⟩ := k
  exact ⟨K + M, fun n hn => (hK n (by omega)).trans (hM n (by omega))⟩
/-- what both answer -/
theorem answers (a0 : Int) (b : List S31) (hb : b.length * 40 ≤ 140737488351232) (hB : ∀ x ∈ b, HX x) : ∃ z : S31, ∃ c : Int, HX z ∧ nL z.f2 ≤ 400 ∧ Ev (fun k => spec_AtMostEx.f k a0 b) (z.f0, z.f1, z.f2, c) ∧ Ev (fun k => impl_AtMostEx.f k a0 b) (z.f0, z.f1, z.f2, c) := by
  have zero : ∀ c : Int, HX (⟨0, 0, []⟩ : S31) ∧ nL ([] : List S31) ≤ 400 := fun c => ⟨HX_mk (wfi_small (by omega) (by omega)) (wfi_small (by omega) (by omega)) (by simp) (by intro x hx; cases hx), by simp [nL]⟩
  by_cases h1 : b.length > 4096
  · exact ⟨⟨0, 0, []⟩, 2, (zero 2).1, (zero 2).2, ifp h1 (sm _), ifp h1 (sm _)⟩
  by_cases h2 : b.length > 6
  · exact ⟨⟨0, 0, []⟩, 5, (zero 5).1, (zero 5).2, ifn h1 (ifp h2 (sm _)), ifn h1 (ifp h2 (sm _))⟩
  have hin : spec_l01In.f a0 (-1) 6 = some (decide (-1 ≤ a0 ∧ a0 ≤ 6)) := by
    unfold spec_l01In.f
    by_cases h : a0 ≥ -1
    · rw [if_pos h]
      congr 1
      rw [decide_eq_decide]
      omega
    · rw [if_neg h]
      congr 1
      symm
      rw [decide_eq_false_iff_not]
      omega
  have hwi : impl_within.f a0 (-1) 6 = some (decide (-1 ≤ a0 ∧ a0 ≤ 6)) := hin
  by_cases h3 : -1 ≤ a0 ∧ a0 ≤ 6
  · rw [decide_eq_true h3] at hin hwi
    by_cases h4 : b.all exX = true
    · have hz : HX (mostE b a0) := HX_mostE b a0 hB
      have hcop := copies b hB
      have s' : Ev (fun k => spec_AtMostEx.f k a0 b) (finX (mostE b a0)) := by
        refine ifn h1 (ifn h2 (bnd0 hin (ifp rfl (bnd (fits_is b hb hB) (ifp h4 ?_)))))
        refine late (g := fun k => (spec_ExOK.f k (mostE b a0).f0 (mostE b a0).f1 (mostE b a0).f2).bind fun t => if t = true then some ((mostE b a0).f0, (mostE b a0).f1, (mostE b a0).f2, 0) else some (0, 0, [], 11)) ?_ ?_
        · obtain ⟨K, hK⟩ := hcop
          exact ⟨K, fun n hn => if_pos ⟨⟨h3.1, by omega⟩, fun x hx => hK n hn x hx⟩⟩
        · refine bnd (okX hz) ?_
          by_cases hx : exX (mostE b a0) = true
          · rw [finX_p hx]; exact ifp hx (sm _)
          · rw [finX_n hx]; exact ifn hx (sm _)
      have t' : Ev (fun k => impl_AtMostEx.f k a0 b) (finX (mostE b a0)) := ifn h1 (ifn h2 (bnd0 hwi (ifp rfl (bnd0 (areX b) (ifp h4 (ifp ⟨h3.1, by omega⟩ (checkedX hz)))))))
      generalize mostE b a0 = z at hz s' t'
      by_cases hx : exX z = true
      · rw [finX_p hx] at s' t'
        exact ⟨z, 0, hz, nL_X hx, s', t'⟩
      · rw [finX_n hx] at s' t'
        exact ⟨⟨0, 0, []⟩, 11, (zero 11).1, (zero 11).2, s', t'⟩
    · exact ⟨⟨0, 0, []⟩, 1, (zero 1).1, (zero 1).2, ifn h1 (ifn h2 (bnd0 hin (ifp rfl (bnd (fits_is b hb hB) (ifn h4 (sm _)))))), ifn h1 (ifn h2 (bnd0 hwi (ifp rfl (bnd0 (areX b) (ifn h4 (sm _))))))⟩
  · rw [decide_eq_false h3] at hin hwi
    exact ⟨⟨0, 0, []⟩, 5, (zero 5).1, (zero 5).2, ifn h1 (ifn h2 (bnd0 hin (ifn (by simp) (sm _)))), ifn h1 (ifn h2 (bnd0 hwi (ifn (by simp) (sm _))))⟩

open Classical in
theorem FnExactAtMostEx : laws_FnExactAtMostEx.Pure := by
  intro a0 l1 ha h1
  refine Ev.rounds ?_
  obtain ⟨n1, w1⟩ := wl_of h1
  obtain ⟨u, u0, u1, hu, hu2⟩ := szX_is n1 l1 w1 1048576 (by omega) (by omega)
  by_cases ht : u < 0
  · exact bnd hu (ifp ht (sm _))
  · refine bnd hu (ifn ht ?_)
    have e1 := hu2 (by omega)
    have L1 := HL_cv n1 l1 w1
    obtain ⟨z, c, hz, hzn, hsp, him⟩ := answers a0 (l1.map cv) L1.1 (fun x hx => HL_mem L1 hx)
    refine bnd (toS_is n1 l1 w1) (bnd hsp (bnd him (bnd (eqX_self hz) (bnd (eqS_self n1 _ L1) (bnd (held_is hz (by omega) z.f0 z.f1) ?_)))))
    exact ifp ⟨rfl, rfl, rfl, rfl, by omega, by omega⟩ (sm _)

end Go.Proofs.Ytcmkkoggdcjceaa.Pure
