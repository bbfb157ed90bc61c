/- FnExactEvalEx: the pure statement behind the law: the program comes to the same value of an expression as the reference. No conditions. -/
import Derived.Test.YtcmkkoggdcjceaaDefFnExactEvalEx
import Derived.Test.YtcmkkoggdcjceaaPlain
set_option linter.unusedVariables false
set_option linter.unusedSimpArgs false
namespace Go.Proofs.Ytcmkkoggdcjceaa.Pure
open Go.RowKit Go.Proofs.Ytcmkkoggdcjceaa Go.Proofs.Ytcmkkoggdcjceaa.PFnExactEvalEx Go.Proofs.YtcmkkoggdcjceaaW.PrintWords Go.Proofs.YtcmkkoggdcjceaaW.PrintLast Go.Proofs.Ytcmkkoggdcjceaa.Plain

/-! a tree of type Ex: its bounds, the program's own copy of it, and the functions sz, to and eq -/
theorem u_num {x : Int} (h : Reads.WFI x) : -9223372036854775808 ≤ x ∧ x ≤ 9223372036854775807 := h
mutual
def cv : S24 → S31
  | ⟨a, b, l⟩ => ⟨a, b, cvs l⟩
def cvs : List S24 → List S31
  | [] => []
  | x :: r => cv x :: cvs r
end
theorem cvs_map (l : List S24) : cvs l = l.map cv := by
  induction l with
  | nil => rfl
  | cons x r ih => rw [cvs, List.map_cons, ih]
theorem cv_0 (x : S24) : (cv x).f0 = x.f0 := by
  obtain ⟨a, b, l⟩ := x
  rw [cv]
theorem cv_1 (x : S24) : (cv x).f1 = x.f1 := by
  obtain ⟨a, b, l⟩ := x
  rw [cv]
theorem cv_2 (x : S24) : (cv x).f2 = x.f2.map cv := by
  obtain ⟨a, b, l⟩ := x
  rw [cv]
  exact cvs_map l
theorem cv_mk (x : S24) : (⟨x.f0, x.f1, x.f2.map cv⟩ : S31) = cv x := by
  obtain ⟨a, b, l⟩ := x
  rw [cv, cvs_map]
abbrev WL (n : Nat) (l : List S24) : Prop := Reads.WFL 40 (wf24N n) l
theorem wl_le {n m : Nat} (h : n ≤ m) : ∀ x, wf24N n x → wf24N m x := by
  induction n generalizing m with
  | zero => exact fun x hx => hx.elim
  | succ n ih =>
    intro x hx
    cases m with
    | zero => omega
    | succ m => exact ⟨hx.1, hx.2.1, hx.2.2.1, fun y hy => ih (by omega) y (hx.2.2.2 y hy)⟩
theorem wl_of {l : List S24} (h : Reads.WFL 40 wf24 l) : ∃ n, WL n l := by
  have : ∀ l : List S24, (∀ x ∈ l, wf24 x) → ∃ n, ∀ x ∈ l, wf24N n x := by
    intro l
    induction l with
    | nil => exact fun _ => ⟨0, fun x hx => by cases hx⟩
    | cons a r ih =>
      intro h
      obtain ⟨n, hn⟩ := ih fun x hx => h x (List.mem_cons_of_mem _ hx)
      obtain ⟨m, hm⟩ := h a List.mem_cons_self
      refine ⟨n + m, fun x hx => ?_⟩
      rcases List.mem_cons.1 hx with rfl | hx
      · exact wl_le (by omega) _ hm
      · exact wl_le (by omega) _ (hn x hx)
  obtain ⟨n, hn⟩ := this l h.2
  exact ⟨n, h.1, hn⟩
theorem szS_is (n : Nat) : ∀ l, WL n l → ∀ left : Int, 0 ≤ left → left ≤ 1048576 → ∃ v : Int, -1 ≤ v ∧ v ≤ 1048576 ∧ Ev (fun k => laws_szExS.f k l left) v := by
  induction n with
  | zero =>
    intro l h left h0 h1
    cases l with
    | cons x r => exact (h.2 x List.mem_cons_self).elim
    | nil =>
      refine ⟨left, by omega, h1, stp (fun k => laws_szExS.f.eq_2 ..) ?_⟩
      rw [show wrap64 (left - (([] : List S24).length : Int)) = left by simp; exact w64 (by omega) (by omega)]
      exact ifn (by omega) (stp (fun k => laws_szExS.l0.eq_2 ..) (ifn (by simp) (sm _)))
  | succ n ih =>
    intro l h left h0 h1
    have hl : l.length * 40 ≤ 140737488351232 := h.1
    by_cases hs : left - (l.length : Int) < 0
    · exact ⟨-1, by omega, by omega, stp (fun k => laws_szExS.f.eq_2 ..) (ifp (by rw [w64 (by omega) (by omega)]; exact hs) (sm _))⟩
    · have key : ∀ (d i : Nat) (lf : Int), i + d = l.length → 0 ≤ lf → lf ≤ 1048576 → ∃ v : Int, -1 ≤ v ∧ v ≤ 1048576 ∧ Ev (fun k => laws_szExS.l0 k l lf (i : Int)) v := by
        intro d
        induction d with
        | zero =>
          intro i lf hi hf0 hf1
          exact ⟨lf, by omega, hf1, stp (fun k => laws_szExS.l0.eq_2 ..) (ifn (by omega) (sm _))⟩
        | succ d ihd =>
          intro i lf hi hf0 hf1
          have hil : i < l.length := by omega
          have hx : l[i]? = some l[i] := List.getElem?_eq_getElem hil
          have hw := h.2 l[i] (List.getElem_mem hil)
          obtain ⟨v, hv0, hv1, hv⟩ := ih l[i].f2 hw.2.2 lf hf0 hf1
          by_cases hn : v < 0
          · refine ⟨-1, by omega, by omega, stp (fun k => laws_szExS.l0.eq_2 ..) (ifp (by omega) (ifp (by omega) ?_))⟩
            rw [show rd_T24 l (i : Int) = l[i] from getD_some hx]
            exact bnd (a := -1) (bnd hv (ifp hn (sm _))) (ifp (by omega) (sm _))
          · obtain ⟨u, hu0, hu1, hu⟩ := ihd (i + 1) v (by omega) (by omega) hv1
            rw [show ((i + 1 : Nat) : Int) = (i : Int) + 1 by omega] at hu
            refine ⟨u, hu0, hu1, stp (fun k => laws_szExS.l0.eq_2 ..) (ifp (by omega) (ifp (by omega) ?_))⟩
            rw [show rd_T24 l (i : Int) = l[i] from getD_some hx, up (by omega) (by omega : (i : Int) < (l.length : Int)) (by omega)]
            exact bnd (a := v) (bnd hv (ifn hn (sm _))) (ifn hn hu)
      obtain ⟨v, hv0, hv1, hev⟩ := key l.length 0 (left - (l.length : Int)) (by omega) (by omega) (by omega)
      refine ⟨v, hv0, hv1, stp (fun k => laws_szExS.f.eq_2 ..) (ifn (by rw [w64 (by omega) (by omega)]; exact hs) ?_)⟩
      rw [w64 (by omega) (by omega)]
      exact hev
theorem sz_is (a b : Int) (l : List S24) (h : Reads.WFL 40 wf24 l) : ∃ v : Int, Ev (fun k => laws_szEx.f k a b l 1048576) v := by
  obtain ⟨n, hn⟩ := wl_of h
  obtain ⟨v, _, _, hv⟩ := szS_is n l hn 1048576 (by omega) (by omega)
  by_cases hs : v < 0
  · exact ⟨-1, bnd hv (ifp hs (sm _))⟩
  · exact ⟨v, bnd hv (ifn hs (sm _))⟩
theorem toS_is (n : Nat) : ∀ l, WL n l → Ev (fun k => laws_toExS.f k l) (l.map cv) := by
  induction n with
  | zero =>
    intro l h
    cases l with
    | cons x r => exact (h.2 x List.mem_cons_self).elim
    | nil => exact stp (fun k => laws_toExS.f.eq_2 ..) (ifp (by simp) (ifp (by simp) (stp (fun k => laws_toExS.l0.eq_2 ..) (ifn (by simp) (sm _)))))
  | succ n ih =>
    intro l h
    have hl : l.length * 40 ≤ 140737488351232 := h.1
    refine stp (fun k => laws_toExS.f.eq_2 ..) (ifp (by omega) (ifp (by omega) ?_))
    refine copy cv l (fun i out k => laws_toExS.l0 k l out i) ?_ ?_ (List.replicate (l.length : Int).toNat z31) (by simp)
    · intro out
      exact stp (fun k => laws_toExS.l0.eq_2 ..) (ifn (by omega) (sm _))
    · intro i out r x hx hlen hk
      have hi : i < l.length := (List.getElem?_eq_some_iff.1 hx).1
      have hw := h.2 x (List.mem_of_getElem? hx)
      refine stp (fun k => laws_toExS.l0.eq_2 ..) (ifp (by omega) (ifp (by omega) ?_))
      rw [show rd_T24 l (i : Int) = x from getD_some hx, up (by omega) (by omega : (i : Int) < (l.length : Int)) (by omega), Int.toNat_natCast]
      refine bnd (a := (x.f0, x.f1, x.f2.map cv)) (bnd (ih x.f2 hw.2.2) (sm _)) (ifp (by omega) ?_)
      show Ev (fun k => laws_toExS.l0 k l (out.set i ⟨x.f0, x.f1, x.f2.map cv⟩) ((i : Int) + 1)) r
      rw [cv_mk]
      exact hk
theorem to_is (a b : Int) (l : List S24) (h : Reads.WFL 40 wf24 l) : Ev (fun k => laws_toEx.f k a b l) (a, b, l.map cv) := by
  obtain ⟨n, hn⟩ := wl_of h
  exact bnd (toS_is n l hn) (sm _)
/-- a tree of the program's kind within its bounds -/
def HN : Nat → S31 → Prop
  | 0, _ => False
  | n + 1, x => Reads.WFI x.f0 ∧ (Reads.WFI x.f1 ∧ Reads.WFL 40 (HN n) x.f2)
abbrev HL (n : Nat) (l : List S31) : Prop := Reads.WFL 40 (HN n) l
theorem HN_cv (n : Nat) : ∀ x, wf24N n x → HN n (cv x) := by
  induction n with
  | zero => exact fun x h => h.elim
  | succ n ih =>
    intro x h
    refine ⟨by rw [cv_0]; exact h.1, by rw [cv_1]; exact h.2.1, ?_⟩
    rw [cv_2]
    refine ⟨by simpa using h.2.2.1, fun y hy => ?_⟩
    obtain ⟨z, hz, rfl⟩ := List.mem_map.1 hy
    exact ih z (h.2.2.2 z hz)
theorem HL_cv (n : Nat) (l : List S24) (h : WL n l) : HL n (l.map cv) := by
  refine ⟨by simpa using h.1, fun y hy => ?_⟩
  obtain ⟨z, hz, rfl⟩ := List.mem_map.1 hy
  exact HN_cv n z (h.2 z hz)
theorem eqS_self (n : Nat) : ∀ l, HL n l → Ev (fun k => laws_eqExS.f k l l) true := by
  induction n with
  | zero =>
    intro l h
    cases l with
    | cons x r => exact (h.2 x List.mem_cons_self).elim
    | nil => exact stp (fun k => laws_eqExS.f.eq_2 ..) (ifp rfl (stp (fun k => laws_eqExS.l0.eq_2 ..) (ifn (by simp) (sm _))))
  | succ n ih =>
    intro l h
    have hl : l.length * 40 ≤ 140737488351232 := h.1
    refine stp (fun k => laws_eqExS.f.eq_2 ..) (ifp rfl ?_)
    refine same l (fun i k => laws_eqExS.l0 k l l i) ?_ ?_
    · exact stp (fun k => laws_eqExS.l0.eq_2 ..) (ifn (by omega) (sm _))
    · intro i x hx hk
      have hi : i < l.length := (List.getElem?_eq_some_iff.1 hx).1
      have hw := h.2 x (List.mem_of_getElem? hx)
      refine stp (fun k => laws_eqExS.l0.eq_2 ..) (ifp (by omega) (ifp (by omega) (ifp (by omega) ?_)))
      rw [show rd_T31 l (i : Int) = x from getD_some hx, up (by omega) (by omega : (i : Int) < (l.length : Int)) (by omega)]
      exact bnd (a := true) (ifp rfl (ifp rfl (bnd (ih x.f2 hw.2.2) (ifp rfl (sm _))))) (ifp rfl hk)
theorem eq_self (n : Nat) (a b : Int) (l : List S31) (h : HL n l) : Ev (fun k => laws_eqEx.f k a b l a b l) true := ifp rfl (ifp rfl (bnd (eqS_self n l h) (ifp rfl (sm _))))
mutual
/-- how many nodes a tree has -/
def nodes : S31 → Nat
  | ⟨_, _, l⟩ => 1 + nodess l
def nodess : List S31 → Nat
  | [] => 0
  | x :: r => nodes x + nodess r
end
theorem nodes_pos (x : S31) : 1 ≤ nodes x := by
  obtain ⟨a, b, l⟩ := x
  rw [nodes]
  omega
theorem eta (x : S31) : (⟨x.f0, x.f1, x.f2⟩ : S31) = x := by
  obtain ⟨a, b, l⟩ := x
  rfl
mutual
/-- nothing stands too deep -/
def deepB : S31 → Int → Bool
  | ⟨_, _, l⟩, d => decide (d ≤ 40) && deepBs l (d + 1)
def deepBs : List S31 → Int → Bool
  | [], _ => true
  | x :: r, d => deepB x d && deepBs r d
end
theorem left_step (a b : Int) (l : List S31) (hl : l.length * 40 ≤ 140737488351232) (dp : Int) (hd0 : 0 ≤ dp) (hd1 : dp ≤ 40) (ih : ∀ x ∈ l, ∀ left : Int, 0 ≤ left → left ≤ 1048576 → ∃ v : Int, -1 ≤ v ∧ v ≤ 1048576 ∧ Ev (fun k => spec_l04Left.f k x.f0 x.f1 x.f2 left (dp + 1)) v ∧ (0 ≤ v ↔ (deepB x (dp + 1) = true ∧ ((nodes x : Nat) : Int) ≤ left)) ∧ (0 ≤ v → v = left - ((nodes x : Nat) : Int))) :
    ∀ (d i : Nat) (lf : Int), i + d = l.length → -1 ≤ lf → lf ≤ 1048576 → ∃ v : Int, -1 ≤ v ∧ v ≤ 1048576 ∧ Ev (fun k => spec_l04Left.l0 k lf dp (i : Int) a b l) v ∧ (0 ≤ v ↔ (deepBs (l.drop i) (dp + 1) = true ∧ ((nodess (l.drop i) : Nat) : Int) ≤ lf)) ∧ (0 ≤ v → v = lf - ((nodess (l.drop i) : Nat) : Int)) := by
  intro d
  induction d with
  | zero =>
    intro i lf hi hf0 hf1
    obtain rfl : i = l.length := by omega
    refine ⟨lf, hf0, hf1, stp (fun k => spec_l04Left.l0.eq_2 ..) (ifn (by omega) (sm _)), ?_, ?_⟩
    · rw [List.drop_length, nodess, deepBs]
      simp
    · rw [List.drop_length, nodess]
      omega
  | succ d ihd =>
    intro i lf hi hf0 hf1
    have hil : i < l.length := by omega
    have hx : l[i]? = some l[i] := List.getElem?_eq_getElem hil
    rw [List.drop_eq_getElem_cons hil, nodess, deepBs]
    have hp := nodes_pos l[i]
    by_cases hneg : lf ≥ 0
    · obtain ⟨v, hv0, hv1, hv, hv2, hv3⟩ := ih l[i] (List.getElem_mem hil) lf hneg hf1
      obtain ⟨u, hu0, hu1, hu, hu2, hu3⟩ := ihd (i + 1) v (by omega) hv0 hv1
      refine ⟨u, hu0, hu1, stp (fun k => spec_l04Left.l0.eq_2 ..) (ifp (by omega) (ifp hneg (ifp (by omega) ?_))), ?_, ?_⟩
      · rw [show rd_T31 l (i : Int) = l[i] from getD_some hx, up (by omega) (by omega : (i : Int) < (l.length : Int)) (by omega), w64 (x := dp + 1) (by omega) (by omega)]
        rw [show ((i + 1 : Nat) : Int) = (i : Int) + 1 by omega] at hu
        exact bnd hv hu
      · rw [Bool.and_eq_true, hu2]
        constructor
        · rintro ⟨h1, h2⟩
          have hv' := hv2.1 (by omega)
          have := hv3 (by omega)
          exact ⟨⟨hv'.1, h1⟩, by omega⟩
        · rintro ⟨⟨h1, h2⟩, h3⟩
          have h4 := hv2.2 ⟨h1, by omega⟩
          have := hv3 h4
          exact ⟨h2, by omega⟩
      · intro h
        have h1 := hu2.1 h
        have h2 := hv3 (by omega)
        have := hu3 h
        omega
    · refine ⟨lf, hf0, hf1, stp (fun k => spec_l04Left.l0.eq_2 ..) (ifp (by omega) (ifn hneg (sm _))), ?_, ?_⟩
      · constructor
        · intro h
          omega
        · rintro ⟨_, h⟩
          omega
      · omega
theorem left_is (n : Nat) : ∀ (a b : Int) (l : List S31), HL n l → ∀ dp : Int, 0 ≤ dp → dp ≤ 100 → ∀ left : Int, 0 ≤ left → left ≤ 1048576 → ∃ v : Int, -1 ≤ v ∧ v ≤ 1048576 ∧ Ev (fun k => spec_l04Left.f k a b l left dp) v ∧ (0 ≤ v ↔ (deepB ⟨a, b, l⟩ dp = true ∧ ((nodes ⟨a, b, l⟩ : Nat) : Int) ≤ left)) ∧ (0 ≤ v → v = left - ((nodes ⟨a, b, l⟩ : Nat) : Int)) := by
  induction n with
  | zero =>
    intro a b l h dp hd0 hd1 left h0 h1
    by_cases hdp : dp > 40
    · refine ⟨-1, by omega, by omega, stp (fun k => spec_l04Left.f.eq_2 ..) (ifp hdp (sm _)), ?_, by omega⟩
      rw [deepB, decide_eq_false (by omega)]
      simp
    · obtain ⟨v, hv0, hv1, hev, h2, h3⟩ := left_step a b l h.1 dp hd0 (by omega) (fun x hx => (h.2 x hx).elim) l.length 0 (left - 1) (by omega) (by omega) (by omega)
      rw [List.drop_zero] at h2 h3
      refine ⟨v, hv0, hv1, stp (fun k => spec_l04Left.f.eq_2 ..) (ifn hdp ?_), ?_, ?_⟩
      · rw [w64 (by omega) (by omega)]
        exact hev
      · rw [nodes, deepB, decide_eq_true (by omega : dp ≤ 40), Bool.true_and, h2]
        constructor
        · rintro ⟨q1, q2⟩; exact ⟨q1, by omega⟩
        · rintro ⟨q1, q2⟩; exact ⟨q1, by omega⟩
      · rw [nodes]
        omega
  | succ n ih =>
    intro a b l h dp hd0 hd1 left h0 h1
    by_cases hdp : dp > 40
    · refine ⟨-1, by omega, by omega, stp (fun k => spec_l04Left.f.eq_2 ..) (ifp hdp (sm _)), ?_, by omega⟩
      rw [deepB, decide_eq_false (by omega)]
      simp
    · obtain ⟨v, hv0, hv1, hev, h2, h3⟩ := left_step a b l h.1 dp hd0 (by omega) (fun x hx left q0 q1 => by
        have := ih x.f0 x.f1 x.f2 (h.2 x hx).2.2 (dp + 1) (by omega) (by omega) left q0 q1
        rwa [eta x] at this) l.length 0 (left - 1) (by omega) (by omega) (by omega)
      rw [List.drop_zero] at h2 h3
      refine ⟨v, hv0, hv1, stp (fun k => spec_l04Left.f.eq_2 ..) (ifn hdp ?_), ?_, ?_⟩
      · rw [w64 (by omega) (by omega)]
        exact hev
      · rw [nodes, deepB, decide_eq_true (by omega : dp ≤ 40), Bool.true_and, h2]
        constructor
        · rintro ⟨q1, q2⟩; exact ⟨q1, by omega⟩
        · rintro ⟨q1, q2⟩; exact ⟨q1, by omega⟩
      · rw [nodes]
        omega
mutual
theorem count_is : ∀ (y : S31) (deep c : Int), 0 ≤ deep → deep ≤ 100 → 0 ≤ c → c ≤ 400 → (countE y deep c).1 = (rightE y && (deepB y deep && decide (c + ((nodes y : Nat) : Int) ≤ 400))) ∧ ((countE y deep c).1 = true → (countE y deep c).2 = c + ((nodes y : Nat) : Int))
  | ⟨kind, n, kids⟩, deep, c, d0, d1, h0, h1 => by
    rw [countE, rightE, nodes, deepB, w64 (x := c + 1) (by omega) (by omega), w64 (x := deep + 1) (by omega) (by omega)]
    by_cases t1 : c + 1 > 400
    · rw [decide_eq_true t1, Bool.true_or, if_pos rfl]
      have : ¬ (c + ((1 + nodess kids : Nat) : Int) ≤ 400) := by omega
      rw [decide_eq_false this]
      exact ⟨by simp, by simp⟩
    · rw [decide_eq_false t1, Bool.false_or]
      by_cases t2 : deep > 40
      · rw [decide_eq_true t2, Bool.true_or, if_pos rfl, decide_eq_false (by omega : ¬ deep ≤ 40)]
        exact ⟨by simp, by simp⟩
      · rw [decide_eq_false t2, Bool.false_or, decide_eq_true (by omega : deep ≤ 40)]
        cases hm : ((kids.length : Int) == kidsM kind) with
        | false => exact ⟨by simp, by simp⟩
        | true =>
          cases hn : numB kind n with
          | false => exact ⟨by simp, by simp⟩
          | true =>
            have hc := counts_is kids (deep + 1) (c + 1) (by omega) (by omega) (by omega) (by omega)
            simp only [Bool.not_true, Bool.or_self, Bool.true_and, Bool.false_eq_true, if_false]
            rw [show c + ((1 + nodess kids : Nat) : Int) = c + 1 + ((nodess kids : Nat) : Int) by omega]
            exact hc
theorem counts_is : ∀ (l : List S31) (deep c : Int), 0 ≤ deep → deep ≤ 100 → 0 ≤ c → c ≤ 400 → (countEs l deep c).1 = (rightEs l && (deepBs l deep && decide (c + ((nodess l : Nat) : Int) ≤ 400))) ∧ ((countEs l deep c).1 = true → (countEs l deep c).2 = c + ((nodess l : Nat) : Int))
  | [], deep, c, d0, d1, h0, h1 => by
    rw [countEs, rightEs, nodess, deepBs, decide_eq_true (by omega)]
    exact ⟨rfl, fun _ => by simp⟩
  | x :: r, deep, c, d0, d1, h0, h1 => by
    have hx := count_is x deep c d0 d1 h0 h1
    rw [countEs, rightEs, nodess, deepBs]
    generalize countE x deep c = q at hx
    obtain ⟨q1, q2⟩ := q
    simp only at hx
    obtain ⟨e1, e2⟩ := hx
    cases q1 with
    | false =>
      refine ⟨?_, by simp⟩
      simp only
      cases hb : rightE x with
      | false => simp
      | true =>
        cases hd : deepB x deep with
        | false => simp
        | true =>
          rw [hb, hd, Bool.true_and, Bool.true_and] at e1
          have := of_decide_eq_false e1.symm
          rw [decide_eq_false (by omega)]
          simp
    | true =>
      have e3 := e2 rfl
      subst e3
      have e4 := Bool.and_eq_true_iff.1 e1.symm
      have e6 := Bool.and_eq_true_iff.1 e4.2
      have e5 := of_decide_eq_true e6.2
      have hr := counts_is r deep (c + ((nodes x : Nat) : Int)) d0 d1 (by omega) e5
      rw [e4.1, e6.1, Bool.true_and, Bool.true_and]
      rw [show c + ((nodes x + nodess r : Nat) : Int) = c + ((nodes x : Nat) : Int) + ((nodess r : Nat) : Int) by omega]
      exact hr
end
/-- what both answer -/
def exB (a b : Int) (l : List S31) : Bool := rightE ⟨a, b, l⟩ && (deepB ⟨a, b, l⟩ 1 && decide (((nodes ⟨a, b, l⟩ : Nat) : Int) ≤ 400))
theorem exOK_same (n : Nat) (a b : Int) (l : List S31) (h : HL n l) : Ev (fun k => spec_ExOK.f k a b l) (exB a b l) := by
  unfold exB
  obtain ⟨v, _, _, hv, e1, _⟩ := left_is n a b l h 1 (by omega) (by omega) 400 (by omega) (by omega)
  refine bnd hv ?_
  by_cases hs : v ≥ 0
  · have := e1.1 hs
    rw [this.1, decide_eq_true this.2, Bool.and_true, Bool.and_true]
    exact ifp hs (sm _)
  · cases hd : deepB ⟨a, b, l⟩ 1 with
    | false =>
      rw [Bool.false_and, Bool.and_false]
      exact ifn hs (sm _)
    | true =>
      rw [decide_eq_false (fun x => hs (e1.2 ⟨hd, x⟩)), Bool.and_false, Bool.and_false]
      exact ifn hs (sm _)
theorem isEx_is (a b : Int) (l : List S31) : impl_isEx.f a b l = some (exB a b l) := by
  unfold impl_isEx.f exB
  rw [(count_is ⟨a, b, l⟩ 1 0 (by omega) (by omega) (by omega) (by omega)).1]
  simp
theorem toB_is (l : List Bool) (hl : l.length ≤ 281474976710656) : Ev (fun k => laws_toBoolS.f k l) l := by
  refine evc (fun k => laws_toBoolS.f.eq_1 ..) (ifp (by omega) (ifp (by omega) ?_))
  have := copy (fun x : Bool => x) l (fun i out k => laws_toBoolS.l0 k l out i) ?_ ?_ (List.replicate (l.length : Int).toNat false) (by simp)
  · simpa using this
  · intro out
    exact stp (fun k => laws_toBoolS.l0.eq_2 ..) (ifn (by omega) (sm _))
  · intro i out r x hx hlen hk
    have hi : i < l.length := (List.getElem?_eq_some_iff.1 hx).1
    refine stp (fun k => laws_toBoolS.l0.eq_2 ..) (ifp (by omega) (ifp (by omega) (ifp (by omega) ?_)))
    rw [show rdOf false l (i : Int) = x from getD_some hx, up (by omega) (by omega : (i : Int) < (l.length : Int)) (by omega), Int.toNat_natCast]
    exact hk
theorem eqB_self (l : List Bool) (hl : l.length ≤ 281474976710656) : Ev (fun k => laws_eqBoolS.f k l l) true := by
  refine evc (fun k => laws_eqBoolS.f.eq_1 ..) (ifp rfl ?_)
  refine same l (fun i k => laws_eqBoolS.l0 k l l i) ?_ ?_
  · exact stp (fun k => laws_eqBoolS.l0.eq_2 ..) (ifn (by omega) (sm _))
  · intro i x hx hk
    have hi : i < l.length := (List.getElem?_eq_some_iff.1 hx).1
    refine stp (fun k => laws_eqBoolS.l0.eq_2 ..) (ifp (by omega) (ifp (by omega) (ifp (by omega) (ifn (by simp) ?_))))
    rw [up (by omega) (by omega : (i : Int) < (l.length : Int)) (by omega)]
    exact hk
theorem mx_l (a b : Int) : a ≤ mx a b := by
  unfold mx
  split <;> omega
theorem mx_r (a b : Int) : b ≤ mx a b := by
  unfold mx
  split <;> omega
/-- both come to one value of an expression -/
def SameV (vals : List Bool) (x : S31) : Prop := ∃ b, Ev (fun k => spec_l04Eval.f k x.f0 x.f1 x.f2 vals) b ∧ Ev (fun k => impl_evalEx.f k x.f0 x.f1 x.f2 vals) b
/-- both come to one greatest variable, and to one value if it is there -/
def SameM (vals : List Bool) (x : S31) : Prop := ∃ m, Ev (fun k => spec_l04Most.f k x.f0 x.f1 x.f2) m ∧ Ev (fun k => impl_mostVar.f k x.f0 x.f1 x.f2) m ∧ (m < (vals.length : Int) → SameV vals x)
theorem most_loop (vals : List Bool) (a b : Int) (l : List S31) (hl : l.length * 40 ≤ 140737488351232) (ih : ∀ x ∈ l, SameM vals x) : ∀ (d i : Nat) (s : Int), i + d = l.length → ∃ m, s ≤ m ∧ Ev (fun k => spec_l04Most.l0 k s (i : Int) a b l) m ∧ Ev (fun k => impl_mostVar.l0 k s l (l.length : Int) (i : Int)) m ∧ (m < (vals.length : Int) → ∀ x ∈ l.drop i, SameV vals x) := by
  intro d
  induction d with
  | zero =>
    intro i s hi
    obtain rfl : i = l.length := by omega
    refine ⟨s, Int.le_refl _, stp (fun k => spec_l04Most.l0.eq_2 ..) (ifn (by omega) (sm _)), stp (fun k => impl_mostVar.l0.eq_2 ..) (ifn (by omega) (sm _)), ?_⟩
    intro _ x hx
    rw [List.drop_length] at hx
    cases hx
  | succ d ihd =>
    intro i s hi
    have hil : i < l.length := by omega
    have hx : l[i]? = some l[i] := List.getElem?_eq_getElem hil
    obtain ⟨m, h1, h2, h3⟩ := ih l[i] (List.getElem_mem hil)
    obtain ⟨u, hu, u1, u2, u3⟩ := ihd (i + 1) (mx s m) (by omega)
    rw [show ((i + 1 : Nat) : Int) = (i : Int) + 1 by omega] at u1 u2
    have q1 := mx_l s m
    have q2 := mx_r s m
    refine ⟨u, by omega, stp (fun k => spec_l04Most.l0.eq_2 ..) (ifp (by omega) (ifp (by omega) ?_)), stp (fun k => impl_mostVar.l0.eq_2 ..) (ifp (by omega) (ifp (by omega) (ifp (by omega) ?_))), ?_⟩
    · rw [show rd_T31 l (i : Int) = l[i] from getD_some hx, up (by omega) (by omega : (i : Int) < (l.length : Int)) (by omega)]
      exact bnd h1 u1
    · rw [show rd_T31 l (i : Int) = l[i] from getD_some hx, up (by omega) (by omega : (i : Int) < (l.length : Int)) (by omega)]
      exact bnd h2 u2
    · intro hm x hx2
      rw [List.drop_eq_getElem_cons hil] at hx2
      rcases List.mem_cons.1 hx2 with rfl | hx2
      · exact h3 (by omega)
      · exact u3 hm x hx2
theorem evalex_step (vals : List Bool) (a b : Int) (l : List S31) (hl : l.length * 40 ≤ 140737488351232) (hr : rightE ⟨a, b, l⟩ = true) (ih : ∀ x ∈ l, rightE x = true → SameM vals x) : SameM vals ⟨a, b, l⟩ := by
  rw [rightE, Bool.and_eq_true, Bool.and_eq_true] at hr
  obtain ⟨hk, hn, hs⟩ := hr
  have hk := beq_iff_eq.1 hk
  have hsx : ∀ x ∈ l, rightE x = true := by
    rw [rightEs_all, List.all_eq_true] at hs
    exact hs
  have ih' : ∀ x ∈ l, SameM vals x := fun x hx => ih x hx (hsx x hx)
  by_cases k1 : a = 1
  · subst k1
    have hl0 : (l.length : Int) = 0 := hk
    obtain rfl : l = [] := List.length_eq_zero_iff.1 (by omega)
    have hn' : (decide (0 ≤ b) && decide (b ≤ 11)) = true := hn
    rw [Bool.and_eq_true] at hn'
    have b0 := of_decide_eq_true hn'.1
    refine ⟨b, stp (fun k => spec_l04Most.f.eq_2 ..) (ifp rfl (sm _)), stp (fun k => impl_mostVar.f.eq_2 ..) (ifp rfl (stp (fun k => impl_mostVar.j0.eq_2 ..) (stp (fun k => impl_mostVar.l0.eq_2 ..) (ifn (by simp) (sm _))))), fun hm => ?_⟩
    exact ⟨_, stp (fun k => spec_l04Eval.f.eq_2 ..) (ifp rfl (ifp b0 (ifp hm (sm _)))), stp (fun k => impl_evalEx.f.eq_2 ..) (ifp rfl (ifp b0 (ifp hm (sm _))))⟩
  · obtain ⟨m, _, m1, m2, m3⟩ := most_loop vals a b l hl ih' l.length 0 (-1) (by omega)
    refine ⟨m, stp (fun k => spec_l04Most.f.eq_2 ..) (ifn k1 m1), stp (fun k => impl_mostVar.f.eq_2 ..) (ifn k1 (stp (fun k => impl_mostVar.j0.eq_2 ..) m2)), fun hm => ?_⟩
    have hV := m3 hm
    rw [List.drop_zero] at hV
    by_cases k2 : a = 2
    · subst k2
      exact ⟨_, stp (fun k => spec_l04Eval.f.eq_2 ..) (ifn (by show ¬ (2 : Int) = 1; decide) (ifp rfl (sm _))), stp (fun k => impl_evalEx.f.eq_2 ..) (ifn (by show ¬ (2 : Int) = 1; decide) (ifp rfl (sm _)))⟩
    · by_cases k3 : a = 3
      · subst k3
        have hl1 : (l.length : Int) = 1 := hk
        obtain ⟨x, rfl⟩ : ∃ x, l = [x] := List.length_eq_one_iff.1 (by omega)
        obtain ⟨u, u1, u2⟩ := hV x (by simp)
        exact ⟨!u, stp (fun k => spec_l04Eval.f.eq_2 ..) (ifn k1 (ifn k2 (ifp rfl (ifp (by simp) (bnd u1 (sm _)))))), stp (fun k => impl_evalEx.f.eq_2 ..) (ifn k1 (ifn k2 (ifp (by simp) (bnd u2 (ifp rfl (sm _))))))⟩
      · have two : a = 4 ∨ a = 5 ∨ a = 6 → ∃ x y, l = [x, y] := by
          intro h
          have hl2 : (l.length : Int) = 2 := by
            rcases h with rfl | rfl | rfl <;> exact hk
          cases l with
          | nil => simp at hl2
          | cons x r =>
            cases r with
            | nil => simp at hl2
            | cons y r =>
              cases r with
              | nil => exact ⟨x, y, rfl⟩
              | cons z r => simp at hl2; omega
        by_cases k4 : a = 4
        · obtain ⟨x, y, rfl⟩ := two (.inl k4)
          subst k4
          obtain ⟨u, u1, u2⟩ := hV x (by simp)
          obtain ⟨v, v1, v2⟩ := hV y (by simp)
          refine ⟨if u = true then v else false, stp (fun k => spec_l04Eval.f.eq_2 ..) (ifn k1 (ifn k2 (ifn k3 (ifp rfl (ifp (by simp) (bnd u1 ?_)))))), stp (fun k => impl_evalEx.f.eq_2 ..) (ifn k1 (ifn k2 (ifp (by simp) (bnd u2 (ifn k3 (ifp rfl ?_))))))⟩
          · cases u with
            | true => exact ifp rfl (ifp (by simp) (bnd v1 (sm _)))
            | false => exact ifn (by simp) (sm _)
          · cases u with
            | true => exact ifp rfl (ifp (by simp) (bnd v2 (sm _)))
            | false => exact ifn (by simp) (sm _)
        · by_cases k5 : a = 5
          · obtain ⟨x, y, rfl⟩ := two (.inr (.inl k5))
            subst k5
            obtain ⟨u, u1, u2⟩ := hV x (by simp)
            obtain ⟨v, v1, v2⟩ := hV y (by simp)
            refine ⟨if u = true then true else v, stp (fun k => spec_l04Eval.f.eq_2 ..) (ifn k1 (ifn k2 (ifn k3 (ifn k4 (ifp rfl (ifp (by simp) (bnd u1 ?_))))))), stp (fun k => impl_evalEx.f.eq_2 ..) (ifn k1 (ifn k2 (ifp (by simp) (bnd u2 (ifn k3 (ifn k4 (ifp rfl ?_)))))))⟩
            · cases u with
              | true => exact ifp rfl (sm _)
              | false => exact ifn (by simp) (ifp (by simp) (bnd v1 (sm _)))
            · cases u with
              | true => exact ifp rfl (sm _)
              | false => exact ifn (by simp) (ifp (by simp) (bnd v2 (sm _)))
          · by_cases k6 : a = 6
            · obtain ⟨x, y, rfl⟩ := two (.inr (.inr k6))
              subst k6
              obtain ⟨u, u1, u2⟩ := hV x (by simp)
              obtain ⟨v, v1, v2⟩ := hV y (by simp)
              exact ⟨u != v, stp (fun k => spec_l04Eval.f.eq_2 ..) (ifn k1 (ifn k2 (ifn k3 (ifn k4 (ifn k5 (ifp rfl (ifp (by simp) (bnd u1 (ifp (by simp) (bnd v1 (sm _)))))))))) ), stp (fun k => impl_evalEx.f.eq_2 ..) (ifn k1 (ifn k2 (ifp (by simp) (bnd u2 (ifn k3 (ifn k4 (ifn k5 (ifp rfl (ifp (by simp) (bnd v2 (sm _)))))))))) )⟩
            · have hl3 : (l.length : Int) = 3 := by
                rw [hk]
                unfold kidsM
                by_cases k7 : a = 7
                · rw [if_neg k1, if_neg k2, if_neg k3, if_neg k4, if_neg k5, if_neg k6, if_pos k7]
                · exfalso
                  unfold kidsM at hk
                  rw [if_neg k1, if_neg k2, if_neg k3, if_neg k4, if_neg k5, if_neg k6, if_neg k7] at hk
                  omega
              obtain ⟨x, y, z, rfl⟩ : ∃ x y z, l = [x, y, z] := by
                cases l with
                | nil => simp at hl3
                | cons x r =>
                  cases r with
                  | nil => simp at hl3
                  | cons y r =>
                    cases r with
                    | nil => simp at hl3
                    | cons z r =>
                      cases r with
                      | nil => exact ⟨x, y, z, rfl⟩
                      | cons q r => simp at hl3; omega
              obtain ⟨u, u1, u2⟩ := hV x (by simp)
              obtain ⟨v, v1, v2⟩ := hV y (by simp)
              obtain ⟨t, t1, t2⟩ := hV z (by simp)
              refine ⟨if u = true then v else t, stp (fun k => spec_l04Eval.f.eq_2 ..) (ifn k1 (ifn k2 (ifn k3 (ifn k4 (ifn k5 (ifn k6 (ifp (by simp) (bnd u1 ?_)))))))), stp (fun k => impl_evalEx.f.eq_2 ..) (ifn k1 (ifn k2 (ifp (by simp) (bnd u2 (ifn k3 (ifn k4 (ifn k5 (ifn k6 ?_))))))))⟩
              · cases u with
                | true => exact ifp rfl (ifp (by simp) (bnd v1 (sm _)))
                | false => exact ifn (by simp) (ifp (by simp) (bnd t1 (sm _)))
              · cases u with
                | true => exact ifp rfl (ifp (by simp) (bnd v2 (sm _)))
                | false => exact ifn (by simp) (ifp (by simp) (bnd t2 (sm _)))
theorem evalex_is (vals : List Bool) (n : Nat) : ∀ (a b : Int) (l : List S31), HL n l → rightE ⟨a, b, l⟩ = true → SameM vals ⟨a, b, l⟩ := by
  induction n with
  | zero =>
    intro a b l h hr
    exact evalex_step vals a b l h.1 hr fun x hx => (h.2 x hx).elim
  | succ n ih =>
    intro a b l h hr
    refine evalex_step vals a b l h.1 hr fun x hx hrx => ?_
    have := ih x.f0 x.f1 x.f2 (h.2 x hx).2.2 (by rw [eta x]; exact hrx)
    rwa [eta x] at this
theorem evalEx_same (n : Nat) (a b : Int) (l : List S31) (vals : List Bool) (h : HL n l) : ∃ p, Ev (fun k => spec_EvalEx.f k a b l vals) p ∧ Ev (fun k => impl_EvalEx.f k a b l vals) p := by
  by_cases t1 : (vals.length : Int) > 4096
  · exact ⟨(false, 2), ifp t1 (sm _), ifp t1 (sm _)⟩
  · have hw := exOK_same n a b l h
    have hi := isEx_is a b l
    cases hb : exB a b l with
    | false =>
      rw [hb] at hw hi
      exact ⟨(false, 1), ifn t1 (bnd hw (ifn (by simp) (sm _))), ifn t1 (bnd0 hi (ifn (by simp) (sm _)))⟩
    | true =>
      rw [hb] at hw hi
      unfold exB at hb
      rw [Bool.and_eq_true] at hb
      obtain ⟨m, m1, m2, m3⟩ := evalex_is vals n a b l h hb.1
      by_cases t2 : m ≥ (vals.length : Int)
      · exact ⟨(false, 5), ifn t1 (bnd hw (ifp rfl (bnd m1 (ifp t2 (sm _))))), ifn t1 (bnd0 hi (ifp rfl (bnd m2 (ifp t2 (sm _)))))⟩
      · obtain ⟨v, v1, v2⟩ := m3 (by omega)
        exact ⟨(v, 0), ifn t1 (bnd hw (ifp rfl (bnd m1 (ifn t2 (bnd v1 (sm _)))))), ifn t1 (bnd0 hi (ifp rfl (bnd m2 (ifn t2 (bnd v2 (sm _))))))⟩

theorem FnExactEvalEx : laws_FnExactEvalEx.Pure := by
  intro a0 a1 l vals h0 h1 hl hvals
  refine Ev.rounds ?_
  have hvl : vals.length * 1 ≤ 140737488351232 := hvals.1
  by_cases t1 : (vals.length : Int) > 1048576
  · exact ifp t1 (sm _)
  · refine ifn t1 ?_
    obtain ⟨v, hv⟩ := sz_is a0 a1 l hl
    by_cases hs : v < 0
    · exact bnd hv (ifp hs (sm _))
    · refine bnd hv (ifn hs ?_)
      obtain ⟨n, hn⟩ := wl_of hl
      have hL := HL_cv n l hn
      have hto := to_is a0 a1 l hl
      have htb := toB_is vals (by omega)
      obtain ⟨p, hp1, hp2⟩ := evalEx_same n a0 a1 (l.map cv) vals hL
      refine bnd hto (bnd htb (bnd hp1 (bnd hto (bnd htb (bnd hp2 (ifn (by simp) ?_))))))
      refine stp (fun k => laws_FnExactEvalEx.j0.eq_2 ..) (ifn (by simp) ?_)
      exact bnd hto (bnd (eq_self n _ _ _ hL) (ifp rfl (bnd htb (bnd (eqB_self vals (by omega)) (ifp rfl (sm _))))))

end Go.Proofs.Ytcmkkoggdcjceaa.Pure
