/- FnExactBestRoute: the pure statement behind the law: the program's best route is the reference's. No conditions. -/
import Derived.Test.YtdmeonkkbihbhaaDefFnExactBestRoute
import Derived.Test.YtdmeonkkbihbhaaPlain
set_option linter.unusedVariables false
set_option linter.unusedSimpArgs false
namespace Go.Proofs.Ytdmeonkkbihbhaa.Pure
open Go.RowKit Go.Proofs.Ytdmeonkkbihbhaa Go.Proofs.Ytdmeonkkbihbhaa.PFnExactBestRoute Go.Proofs.YtdmeonkkbihbhaaW.PrintWords Go.Proofs.YtdmeonkkbihbhaaW.PrintLast Go.Proofs.Ytdmeonkkbihbhaa.Plain

def bet (a b : S56) : Bool := if a.f1 = b.f1 then (if a.f2 = b.f2 then decide (a.f0 < b.f0) else decide (a.f2 < b.f2)) else decide (a.f1 > b.f1)
def pick (b x : S56) : S56 := if bet x b = true then x else b
theorem bet_self (a : S56) : bet a a = false := by simp [bet]

theorem spec_bet (a b : S56) : spec_l07Better.f a.f0 a.f1 a.f2 a.f3 b.f0 b.f1 b.f2 b.f3 = some (bet a b) := by
  unfold spec_l07Better.f bet
  by_cases h1 : a.f1 = b.f1 <;> by_cases h2 : a.f2 = b.f2 <;> simp [h1, h2]

theorem cmp_is (a b : Int) : cmp_Compare_int.f a b = some (if a < b then -1 else if a > b then 1 else 0) := by
  unfold cmp_Compare_int.f cmp_isNaN_int.f
  simp only [Option.bind_some, bne_self_eq_false]
  by_cases h1 : a < b
  · simp [h1]
  · by_cases h2 : a > b <;> simp [h1, h2]

theorem or_is (a b c : Int) : Ev (fun k => cmp_Or_int.f k [a, b, c]) (if a = 0 then (if b = 0 then c else b) else a) := by
  have h3 : (0 : Int) < ([a, b, c].length : Int) := by simp
  refine evc (fun _ => cmp_Or_int.f.eq_1 ..) ?_
  refine stp (fun _ => cmp_Or_int.l0.eq_2 ..) (ifp h3 (ifp (by decide) (ifp h3 ?_)))
  by_cases ha : a = 0
  · refine ifp (show rd [a, b, c] 0 = 0 from ha) ?_
    rw [if_pos ha, show wrap64 (0 + 1) = (1 : Int) from by unfold wrap64; omega]
    refine stp (fun _ => cmp_Or_int.l0.eq_2 ..) (ifp (by simp) (ifp (by decide) (ifp (by simp) ?_)))
    by_cases hb : b = 0
    · refine ifp (show rd [a, b, c] 1 = 0 from hb) ?_
      rw [if_pos hb, show wrap64 (1 + 1) = (2 : Int) from by unfold wrap64; omega]
      refine stp (fun _ => cmp_Or_int.l0.eq_2 ..) (ifp (by simp) (ifp (by decide) (ifp (by simp) ?_)))
      by_cases hc : c = 0
      · refine ifp (show rd [a, b, c] 2 = 0 from hc) ?_
        rw [hc, show wrap64 (2 + 1) = (3 : Int) from by unfold wrap64; omega]
        refine stp (fun _ => cmp_Or_int.l0.eq_2 ..) (ifn (by simp) ?_)
        exact sm 0
      · refine ifn (show ¬ rd [a, b, c] 2 = 0 from hc) ?_
        exact sm c
    · refine ifn (show ¬ rd [a, b, c] 1 = 0 from hb) ?_
      rw [if_neg hb]
      exact sm b
  · refine ifn (show ¬ rd [a, b, c] 0 = 0 from ha) ?_
    rw [if_neg ha]
    exact sm a

theorem impl_bet (a b : S56) : Ev (fun k => impl_isBetter.f k a.f0 a.f1 a.f2 a.f3 b.f0 b.f1 b.f2 b.f3) (bet a b) := by
  refine evc (fun _ => impl_isBetter.f.eq_1 ..) ?_
  refine bnd0 (cmp_is _ _) (bnd0 (cmp_is _ _) (bnd0 (cmp_is _ _) (bnd (or_is _ _ _) (one ?_))))
  unfold bet
  by_cases h1 : a.f1 = b.f1
  · by_cases h2 : a.f2 = b.f2
    · by_cases h3 : a.f0 < b.f0
      · simp [h1, h2, h3]
      · by_cases h4 : a.f0 > b.f0 <;> simp [h1, h2, h3, h4]
    · by_cases h3 : a.f2 < b.f2
      · simp [h1, h2, h3]
      · have h4 : b.f2 < a.f2 := by omega
        simp [h1, h2, h3, h4]
  · by_cases h3 : b.f1 < a.f1
    · simp [h1, h3]
    · have h4 : a.f1 < b.f1 := by omega
      simp [h1, h3, h4]

theorem spec_loop (l : List S56) (hl : l.length ≤ 140737488351232) (d : Nat) : ∀ (i : Nat) (b : S56), i + d = l.length →
    Ev (fun k => spec_BestRoute.l0 k l (i : Int) b.f0 b.f1 b.f2 b.f3) (((l.drop i).foldl pick b).f0, ((l.drop i).foldl pick b).f1, ((l.drop i).foldl pick b).f2, ((l.drop i).foldl pick b).f3, 0) := by
  induction d with
  | zero =>
    intro i b hd
    refine stp (fun _ => spec_BestRoute.l0.eq_2 ..) (ifn (by omega) ?_)
    rw [List.drop_of_length_le (by omega)]
    exact sm _
  | succ d ih =>
    intro i b hd
    have hi : i < l.length := by omega
    have hx : rd_T56 l (i : Int) = l[i] := getD_some (List.getElem?_eq_getElem hi)
    refine stp (fun _ => spec_BestRoute.l0.eq_2 ..) (ifp (by omega) (ifp (by omega) ?_))
    rw [hx, up (by omega) (by omega : (i : Int) < (l.length : Int)) (by omega), List.drop_eq_getElem_cons hi, List.foldl_cons]
    refine bnd0 (spec_bet _ _) ?_
    have hih := ih (i + 1)
    rw [show ((i + 1 : Nat) : Int) = (i : Int) + 1 by omega] at hih
    unfold pick
    by_cases hb : bet l[i] b = true
    · refine ifp hb ?_
      rw [if_pos hb]
      exact hih l[i] (by omega)
    · refine ifn hb ?_
      rw [if_neg hb]
      exact hih b (by omega)

theorem impl_loop (l : List S56) (hl : l.length ≤ 140737488351232) (d : Nat) : ∀ (i : Nat) (b : S56), i + d = l.length →
    Ev (fun k => impl_bestRoute.l0 k l (l.length : Int) (i : Int) b.f0 b.f1 b.f2 b.f3) (((l.drop i).foldl pick b).f0, ((l.drop i).foldl pick b).f1, ((l.drop i).foldl pick b).f2, ((l.drop i).foldl pick b).f3) := by
  induction d with
  | zero =>
    intro i b hd
    refine stp (fun _ => impl_bestRoute.l0.eq_2 ..) (ifn (by omega) ?_)
    rw [List.drop_of_length_le (by omega)]
    exact sm _
  | succ d ih =>
    intro i b hd
    have hi : i < l.length := by omega
    have hx : rd_T56 l (i : Int) = l[i] := getD_some (List.getElem?_eq_getElem hi)
    refine stp (fun _ => impl_bestRoute.l0.eq_2 ..) (ifp (by omega) (ifp (by omega) (ifp (by omega) ?_)))
    rw [hx, up (by omega) (by omega : (i : Int) < (l.length : Int)) (by omega), List.drop_eq_getElem_cons hi, List.foldl_cons]
    refine bnd (impl_bet _ _) ?_
    have hih := ih (i + 1)
    rw [show ((i + 1 : Nat) : Int) = (i : Int) + 1 by omega] at hih
    unfold pick
    by_cases hb : bet l[i] b = true
    · refine ifp hb ?_
      rw [if_pos hb]
      exact hih l[i] (by omega)
    · refine ifn hb ?_
      rw [if_neg hb]
      exact hih b (by omega)

/-- What both answer. -/
def ans (l : List S56) : Int × Int × Int × Bool × Int :=
  if (l.length : Int) > 4096 then (0, 0, 0, false, 2) else match l with
  | [] => (0, 0, 0, false, 6)
  | a :: r => ((r.foldl pick a).f0, (r.foldl pick a).f1, (r.foldl pick a).f2, (r.foldl pick a).f3, 0)

theorem spec_is (l : List S56) (hl : l.length ≤ 140737488351232) : Ev (fun k => spec_BestRoute.f k l) (ans l) := by
  refine evc (fun _ => spec_BestRoute.f.eq_1 ..) ?_
  unfold ans
  by_cases h1 : (l.length : Int) > 4096
  · rw [if_pos h1]; exact ifp h1 (sm _)
  · rw [if_neg h1]
    refine ifn h1 ?_
    cases l with
    | nil => exact ifp rfl (sm _)
    | cons a r =>
      refine ifn (by simp; omega) (ifp (by simp) ?_)
      exact spec_loop (a :: r) hl r.length 1 a (by simp; omega)

theorem impl_is (l : List S56) (hl : l.length ≤ 140737488351232) : Ev (fun k => impl_BestRoute.f k l) (ans l) := by
  refine evc (fun _ => impl_BestRoute.f.eq_1 ..) ?_
  unfold ans
  by_cases h1 : (l.length : Int) > 4096
  · rw [if_pos h1]; exact ifp h1 (sm _)
  · rw [if_neg h1]
    refine ifn h1 ?_
    cases l with
    | nil => exact ifp rfl (sm _)
    | cons a r =>
      refine ifn (by simp; omega) ?_
      have hb : Ev (fun k => impl_bestRoute.f k (a :: r)) ((r.foldl pick a).f0, (r.foldl pick a).f1, (r.foldl pick a).f2, (r.foldl pick a).f3) := by
        refine evc (fun _ => impl_bestRoute.f.eq_1 ..) (ifp (by simp) ?_)
        have := impl_loop (a :: r) hl (r.length + 1) 0 a (by simp)
        simp only [List.drop_zero, List.foldl_cons] at this
        rwa [show pick a a = a by simp [pick, bet_self]] at this
      exact bnd hb (sm _)

def conv (x : S112) : S56 := ⟨x.f0, x.f1, x.f2, x.f3⟩
theorem to_is (l : List S112) (hl : l.length ≤ 8796093022208) : Ev (fun k => laws_toRouteS.f k l) (l.map conv) := by
  refine evc (fun _ => laws_toRouteS.f.eq_1 ..) (ifp (by omega) (ifp (by omega) ?_))
  refine copy conv l (fun i out k => laws_toRouteS.l0 k l out i) ?_ ?_ _ (by simp)
  · intro out
    refine stp (fun _ => laws_toRouteS.l0.eq_2 ..) (ifn (by omega) (sm _))
  · intro i out r x hx hlen hk
    have hi : i < l.length := (List.getElem?_eq_some_iff.1 hx).1
    refine stp (fun _ => laws_toRouteS.l0.eq_2 ..) (ifp (by omega) (ifp (by omega) ?_))
    rw [show rd_T112 l (i : Int) = x from getD_some hx, up (by omega) (by omega : (i : Int) < (l.length : Int)) (by omega)]
    refine bnd0 rfl (ifp (by omega) ?_)
    rw [Int.toNat_natCast]
    exact hk

theorem eq_self (x : S56) : laws_eqRoute.f x.f0 x.f1 x.f2 x.f3 x.f0 x.f1 x.f2 x.f3 = some true := by
  unfold laws_eqRoute.f
  simp
theorem eqS_self (l : List S56) (hl : l.length ≤ 140737488351232) : Ev (fun k => laws_eqRouteS.f k l l) true := by
  refine evc (fun _ => laws_eqRouteS.f.eq_1 ..) (ifp rfl ?_)
  refine same l (fun i k => laws_eqRouteS.l0 k l l i) ?_ ?_
  · exact stp (fun _ => laws_eqRouteS.l0.eq_2 ..) (ifn (by omega) (sm _))
  · intro i x hx hk
    have hi : i < l.length := (List.getElem?_eq_some_iff.1 hx).1
    refine stp (fun _ => laws_eqRouteS.l0.eq_2 ..) (ifp (by omega) (ifp (by omega) (ifp (by omega) ?_)))
    rw [up (by omega) (by omega : (i : Int) < (l.length : Int)) (by omega)]
    exact bnd0 (eq_self _) (ifp rfl hk)

theorem FnExactBestRoute : laws_FnExactBestRoute.Pure := by
  intro l hl
  refine Ev.rounds ?_
  refine evc (fun _ => laws_FnExactBestRoute.f.eq_1 ..) ?_
  have h0 := hl.1
  have hsz : laws_szRouteS.f l 1048576 = some (if 1048576 - (l.length : Int) < 0 then -1 else 1048576 - (l.length : Int)) := by
    unfold laws_szRouteS.f
    rw [w64 (by omega) (by omega)]
    by_cases h : 1048576 - (l.length : Int) < 0 <;> simp [h]
  refine bnd0 hsz ?_
  by_cases h : 1048576 - (l.length : Int) < 0
  · rw [if_pos h]; exact ifp (by decide) (sm _)
  · rw [if_neg h]
    have hto := to_is l (by omega)
    have hl2 : (l.map conv).length ≤ 140737488351232 := by simp; omega
    refine ifn h (bnd hto (bnd (spec_is _ hl2) (bnd hto (bnd (impl_is _ hl2) ?_))))
    refine bnd0 (eq_self ⟨(ans (l.map conv)).1, (ans (l.map conv)).2.1, (ans (l.map conv)).2.2.1, (ans (l.map conv)).2.2.2.1⟩) (ifp rfl ?_)
    refine stp (fun _ => laws_FnExactBestRoute.j0.eq_2 ..) (ifn (by simp) ?_)
    exact bnd hto (bnd (eqS_self _ hl2) (ifp rfl (sm _)))

end Go.Proofs.Ytdmeonkkbihbhaa.Pure
