/- WRITTEN BY A PROGRAM OF THIS SESSION (wip/xprint) OVER THE KIT's PRINT, FOR THIS CLAIM: for Go functions that the law reaches, one Lean function each and the proof that Go's call comes to its answer. No conditions but those that each theorem names. -/
import Derived.Test.YtelfahcjeldliaaPFnExactImpliedx0
import Derived.Test.YtelfahcjeldliaaPFnExactImpliedx4
import Derived.Test.YtelfahcjeldliaaPFnExactImpliedx5
namespace Go.Proofs.Ytelfahcjeldliaa.PFnExactImplied
open Go.RowKit Go.Proofs.YtelfahcjeldliaaW.PrintWords Go.Proofs.YtelfahcjeldliaaW.PrintLast Go.Proofs.YtelfahcjeldliaaW.PrintMore
attribute [local go_sem] max2_int min2_int max_two min_two max_three min_three max_four min_four   -- for this text's walks alone
set_option linter.unusedVariables false
set_option linter.unusedSimpArgs false

/-! ### impl_leastModel: function 75 -/
/-- the values of a solved state, without the first -/
def outB (v : List Int) : List Bool := (v.drop 1).map fun x => x == 1
def impl_leastModel.f (k : Nat) (a0_0 : Int) (l0_1 : List (List Int)) : Option (List Bool × Bool) :=
  if decide (0 ≤ a0_0) && decide (a0_0 ≤ 4000) && (l0_1.all fun c => fitL (a0_0 + 1).toNat c) then
    (solveL l0_1 k (List.replicate (a0_0 + 1).toNat 0)).bind fun o => some (match o with
      | none => ([], false)
      | some v => (outB v, true))
  else none
theorem solveL_mono (cs : List (List Int)) : ∀ (k : Nat) (vals : List Int), LeO (solveL cs k vals) (solveL cs (k + 1) vals)
  | 0, _ => fun r h => by simp [solveL] at h
  | k + 1, vals => by
    intro r h
    rw [solveL] at h ⊢
    obtain ⟨t, ht, h⟩ := Option.bind_eq_some_iff.1 h
    refine Option.bind_eq_some_iff.2 ⟨t, propL_mono cs k _ _ t ht, ?_⟩
    by_cases h0 : 0 ≤ t.2.2
    · rw [if_pos h0] at h ⊢
      exact h
    · rw [if_neg h0] at h ⊢
      by_cases h1 : openL t.1 = 0
      · rw [if_pos h1] at h ⊢
        exact h
      · rw [if_neg h1] at h ⊢
        obtain ⟨o, ho, h⟩ := Option.bind_eq_some_iff.1 h
        refine Option.bind_eq_some_iff.2 ⟨o, solveL_mono cs k _ o ho, ?_⟩
        by_cases h2 : o.isSome = true
        · rw [if_pos h2] at h ⊢
          exact h
        · rw [if_neg h2] at h ⊢
          exact solveL_mono cs k _ r h
theorem impl_leastModel.mono : ∀ a0 a1 k, LeO (impl_leastModel.f k a0 a1) (impl_leastModel.f (k + 1) a0 a1) := by
  intro a0 a1 k r h
  unfold impl_leastModel.f at h ⊢
  by_cases hf : (decide (0 ≤ a0) && decide (a0 ≤ 4000) && (a1.all fun c => fitL (a0 + 1).toNat c)) = true
  · rw [if_pos hf] at h ⊢
    obtain ⟨o, ho, h⟩ := Option.bind_eq_some_iff.1 h
    exact Option.bind_eq_some_iff.2 ⟨o, solveL_mono a1 k _ o ho, h⟩
  · rw [if_neg hf] at h
    cases h
set_option maxHeartbeats 8000000 in
set_option maxRecDepth 100000 in
theorem impl_leastModel.calls (k : Nat) (a0_0 : Int) (A0_1 : Option Addr) (c0_1 : Nat) (l0_1 : List (List Int)) (r1 : List Bool) (r2 : Bool) (w : World) (hr0_1 : Kd.C (Kd.slice 3 (Kd.int .i64)) w A0_1 l0_1.length l0_1) (hc0_1 : l0_1.length ≤ c0_1) (h : impl_leastModel.f k a0_0 l0_1 = some (r1, r2)) :
    Calls Try.prog 75 #[.agg #[.int .i64 a0_0, .slice A0_1 l0_1.length c0_1]] w fun e w' => ∃ v0_ : Value, e = .returned (.tuple #[v0_, .bool r2]) ∧ Kd.R Kd.bool 4 w' w.heap.size (fun _ => True) v0_ r1 ∧ Below w.heap.size w w' := by
  unfold impl_leastModel.f at h
  by_cases hf : (decide (0 ≤ a0_0) && decide (a0_0 ≤ 4000) && (l0_1.all fun c => fitL (a0_0 + 1).toNat c)) = true
  · rw [if_pos hf] at h
    simp only [Bool.and_eq_true, decide_eq_true_eq] at hf
    obtain ⟨⟨h0, h1⟩, hf2⟩ := hf
    have hu_Cnf := Try.underlying30
    have hB1 : Below w.heap.size w (w.alloc (.cells #[.int .i64 a0_0, .slice A0_1 l0_1.length c0_1] 30)) := (Below.refl _ _).alloc (Nat.le_refl _) _
    have hnew := newState_any a0_0 A0_1 l0_1.length c0_1 (w.alloc (.cells #[.int .i64 a0_0, .slice A0_1 l0_1.length c0_1] 30)) h0 h1
    have hW : (w.alloc (.cells #[.int .i64 a0_0, .slice A0_1 l0_1.length c0_1] 30)).heap[w.heap.size]? = some (.cells #[.int .i64 a0_0, .slice A0_1 l0_1.length c0_1] 30 (0, 0)) := by
      show (w.heap.push _)[w.heap.size]? = _
      simp
    obtain ⟨o, ho, h⟩ := Option.bind_eq_some_iff.1 h
    have hsolve := solve_any a0_0 A0_1 c0_1 l0_1 (w.alloc (.cells #[.int .i64 a0_0, .slice A0_1 l0_1.length c0_1] 30)) (a0_0 + 1).toNat (Kd.C_below hr0_1 hB1) (by omega) (by omega) hf2 k
    obtain ⟨vs, hvs⟩ : ∃ vs, List.replicate (a0_0 + 1).toNat (0 : Int) = vs := ⟨_, rfl⟩
    have hvl : vs.length = (a0_0 + 1).toNat := by rw [← hvs]; simp
    rw [hvs] at ho hnew
    clear hvs hr0_1 hf2
    obtain ⟨W1, hW1, BX, HB1⟩ : ∃ W1, w.alloc (.cells #[.int .i64 a0_0, .slice A0_1 l0_1.length c0_1] 30) = W1 ∧ W1.heap[w.heap.size]? = some (.cells #[.int .i64 a0_0, .slice A0_1 l0_1.length c0_1] 30 (0, 0)) ∧ Below w.heap.size w W1 := ⟨_, rfl, hW, hB1⟩
    rw [hW1] at hnew hsolve
    have HW1 := Aside0.mk hW1
    have HB1' := Aside0.mk HB1
    have HBX := Aside0.mk BX
    have hx0 : W1.cell? ⟨w.heap.size, 0, none⟩ = some (.int .i64 a0_0) := (blk_cell BX 0).trans rfl
    have hx1 : W1.cell? ⟨w.heap.size, 1, none⟩ = some (.slice A0_1 l0_1.length c0_1) := (blk_cell BX 1).trans rfl
    have HSV := Aside0.mk hsolve
    clear hW hB1 hW1 BX HB1 hsolve
    cases o with
    | none =>
      simp only [Option.some.injEq, Prod.mk.injEq] at h
      obtain ⟨rfl, rfl⟩ := h
      go_enter Try.func75, Try.ntmps75
      go_upto_region 1 with fail
      rw [HW1.out]
      go_wp2_with (first
        | (go_at_call 67; refine hnew.mono ?_; rintro e w2 ⟨g, b, cv, rfl, hS⟩; clear hnew; have hsv := HSV.out g b cv vs none w2 hvl hS ho)
        | (go_at_call 107; refine hsv.mono ?_; rintro e w3 ⟨hk3, hb3, hor⟩; clear hsv; (rcases hor with ⟨-, rfl⟩ | ⟨v5, g5, b5, cv5, hv5, hl5, rfl, hS5⟩; rotate_left; (exact absurd hv5 (by simp)))))
      go_ret2
      exact ⟨_, rfl, Kd.R_nil _ _ _ _ _, HB1'.out.trans (hb3.mono HB1'.out.size)⟩
    | some v =>
      simp only [Option.some.injEq, Prod.mk.injEq] at h
      obtain ⟨rfl, rfl⟩ := h
      go_enter Try.func75, Try.ntmps75
      go_upto_region 1 with fail
      rw [HW1.out]
      go_wp2_with (first
        | (go_at_call 67; refine hnew.mono ?_; rintro e w2 ⟨g, b, cv, rfl, hS⟩; clear hnew; have hsv := HSV.out g b cv vs (some v) w2 hvl hS ho)
        | (go_at_call 107; refine hsv.mono ?_; rintro e w3 ⟨hk3, hb3, hor⟩; clear hsv hx0 hx1; (rcases hor with ⟨hno, -⟩ | ⟨v5, g5, b5, cv5, hv5, hl5, rfl, hS5⟩; (exact absurd hno (by simp))); obtain rfl := Option.some.inj hv5; have hx0 : w3.cell? ⟨w.heap.size, 0, none⟩ = some (.int .i64 a0_0) := (hb3.cell (blk_lt HBX.out)).trans ((blk_cell HBX.out 0).trans rfl))
        | ((with_reducible refine gate_dst (N := 14) rfl ?_); refine Kd.R_make Kd.bool _ 4 rfl (N := 14) rfl 47 _ _ rfl (a0_0 : Int) rfl rfl Try.underlying47 (.bool false) 1 info4 rfl (by decide) (by omega) false (ok := fun k_ => w3.heap.size ≤ k_) (okp := fun _ => False) rfl (fun _ hk => hk.elim) (Nat.le_refl _) (by omega) (by omega) (Below.refl _ _) (Nat.le_refl _) ?_; intro v1 w4 ho4 hb4 hg_ hnew_; clear hg_ hnew_; have hS6 := hS5.below hb4; have hb6 := hb3.trans (hb4.mono hb3.size); have HLT := Aside0.mk (And.intro hS5.glt (And.intro hS5.blt hb3.size)); clear hS5 hb3 hb4 hx0; obtain ⟨Ao, co, eo⟩ := Kd.R_slice ho4; subst eo))
      have hlv : v.length = (a0_0 + 1).toNat := hl5
      have hlo : (outB v).length = a0_0.toNat := by unfold outB; rw [List.length_map, List.length_drop]; omega
      have hlr : (List.replicate a0_0.toNat false).length = a0_0.toNat := by simp
      have HLV := Aside0.mk hlv
      have HLO := Aside0.mk hlo
      have H5 := Aside0.mk hS6
      have H6 := Aside0.mk hb6
      rw [hlr] at ho4
      have H4 := Aside0.mk ho4
      clear hlv hlo hS6 hb6 ho4 hlr
      go_loopg [17] a0_0.toNat (fun gg v17 wr => ∃ (kk : Nat) (ys : List Bool), v17 = .int .i64 kk ∧ kk ≤ a0_0.toNat ∧ a0_0.toNat - kk ≤ gg ∧ ys.length = a0_0.toNat ∧ Aside0 (∀ j, j < kk → ys[j]? = (outB v)[j]?) ∧ Aside0 (Kd.R Kd.bool 4 wr w3.heap.size (fun k_ => w3.heap.size ≤ k_) (.slice Ao a0_0.toNat co) ys) ∧ Aside0 (ST W1 wr g5 b5 a0_0 A0_1 l0_1.length c0_1 cv5 v) ∧ Aside0 (Below W1.heap.size W1 wr))
      case atStart => exact ⟨0, _, rfl, Nat.zero_le _, by omega, by simp, ⟨fun j hj => absurd hj (Nat.not_lt_zero _)⟩, H4, H5, H6⟩
      case round =>
        clear H4 H5 H6
        obtain ⟨kk, ys, rfl, hk, hg, hly, HY, HO, HS, HB⟩ := hrel
        by_cases hlt : kk < a0_0.toNat
        · have hltz : (kk : Int) < (a0_0.toNat : Int) := by omega
          have h0z : (0 : Int) ≤ (kk : Int) := by omega
          have ew : IntKind.i64.wrap ((kk : Int) + 1) = (kk : Int) + 1 := IntWalk.i64_in _ (by omega)
          obtain ⟨hs0, hs1, hs2⟩ := HS.out.cells
          obtain ⟨ad, ea, hx⟩ := Kd.at_int HS.out.reads ((kk : Int) + 1) (by omega) (by have := HLV.out; omega)
          cases ea
          rw [show ((kk : Int) + 1).toNat = kk + 1 by omega, add_plain] at hx
          have p0 : 0 ≤ (kk : Int) + 1 := by omega
          have p1 : (kk : Int) + 1 < (v.length : Int) := by have := HLV.out; omega
          have hpos : 0 < ys.length := by omega
          rw [← hly] at HO
          obtain ⟨gv, cap, eo, hgb, hgl, cells, hcells⟩ := Kd.R_form HO.out hpos
          cases eo
          have hHO := HO.out
          have hput := Kd.R_putg hHO (kk : Int) (rd v ((kk : Int) + 1) == 1)
          obtain ⟨hcx, hfx⟩ := Kd.R_celln false hHO (kk : Int) (by omega) (by omega)
          rw [Int.toNat_natCast] at hcx hfx hput
          have hkb := KeepBut.set_ (KeepBut.refl wr gv none) kk (.bool (rd v ((kk : Int) + 1) == 1))
          have hbw := below_set (j := kk) (v := .bool (rd v ((kk : Int) + 1) == 1)) HB.out (show W1.heap.size ≤ gv by have := HLT.out.2.2; omega)
          have hS7 := HS.out.keep hkb hbw (by have := HLT.out.1; omega) (by have := HLT.out.2.1; omega)
          have n0_ := Aside0.mk hput.1
          have n1_ := Aside0.mk hS7
          have n2_ := Aside0.mk hbw
          have n3_ : Aside0 (∀ j, j < kk + 1 → (ys.set kk (rd v ((kk : Int) + 1) == 1))[j]? = (outB v)[j]?) := ⟨fun j hj => by
            by_cases hjk : j = kk
            · subst hjk
              rw [List.getElem?_set_self (by omega)]
              unfold outB
              rw [List.getElem?_map, List.getElem?_drop, show 1 + j = j + 1 by omega, List.getElem?_eq_getElem (by have := HLV.out; omega)]
              have : rd v ((j : Int) + 1) = v[j + 1]'(by have := HLV.out; omega) := by unfold rd; rw [show ((j : Int) + 1).toNat = j + 1 by omega]; simp [List.getD, (by have := HLV.out; omega : j + 1 < v.length)]
              rw [this]
              rfl
            · rw [List.getElem?_set_ne (fun e => hjk e.symm)]
              exact HY.out j (by omega)⟩
          have hlys : (ys.set kk (rd v ((kk : Int) + 1) == 1)).length = ys.length := by simp
          clear hHO hput hkb hbw hS7 hcells hgb hgl HO HS HB HY
          go_wp2
          go_roundg (gk - 1)
          case measure => omega
          case rel => exact ⟨kk + 1, _, rfl, by omega, by omega, by rw [hlys]; exact hly, n3_, by rw [← hly]; exact n0_, n1_, n2_⟩
        · have hkk : kk = a0_0.toNat := by omega
          have hys : ys = outB v := by
            apply List.ext_getElem?
            intro j
            by_cases hj : j < kk
            · exact HY.out j hj
            · rw [List.getElem?_eq_none (by omega), List.getElem?_eq_none (by have := HLO.out; omega)]
          subst hys
          go_wp2
          go_ret2
          exact ⟨_, rfl, Kd.R_lower (Kd.R_mono HO.out (fun _ _ => trivial)) (Nat.le_trans HB1'.out.size HLT.out.2.2), HB1'.out.trans (HB.out.mono HB1'.out.size)⟩
  · rw [if_neg hf] at h
    cases h

/-! ### impl_Implied: function 30 -/
def implied_T : Bool × List (List Nat × List Nat) := (true, [([], []), ([0], [0]), ([], []), ([2], [2]), ([3], [3]), ([1, 4], [1, 4]), ([], []), ([6, 5, 4, 0, 1, 2, 3, 4, 5, 6], [5, 6])])
def implied_B : List Nat := [0, 1, 0, 4, 12, 31, 0, 127]
theorem implied_tab : rtab .any (opsOf Try.f30 5) = implied_T := by kernel_rfl
theorem implied_bits : waitsOk implied_T.2 implied_B = true := by kernel_rfl
theorem two_of {md : Region.Mode} {ops : Array Oper} {T : Bool × List (List Nat × List Nat)} {l li lj : Array Bool} {i j : Nat} (hT : rtab md ops = T) (h : (readyT T.2 l.toList == [i, j] && l.toList.set i true == li.toList && l.toList.set j true == lj.toList) = true) : (Region.ready md ops l == [i, j] && l.setIfInBounds i true == li && l.setIfInBounds j true == lj) = true := by
  simp only [Bool.and_eq_true] at h
  obtain ⟨⟨h1, h2⟩, h3⟩ := h
  subst hT
  simp only [Bool.and_eq_true]
  refine ⟨⟨?_, set_of h2⟩, set_of h3⟩
  rw [ready_eq]
  exact h1
def impl_Implied.f (k : Nat) (a0_0 : Int) (l0_1 : List (List Int)) (l1 : List Int) : Option (Bool × Int) := if (l1.length : Int) > 4096 then some (false, 2) else if cnfB a0_0 l0_1 = true then (if clauseB l1 a0_0 = true then (impl_leastModel.f k a0_0 (l0_1 ++ l1.map fun x => [-x])).bind fun t => some (!t.2, 0) else some (false, 1)) else some (false, 1)
theorem impl_Implied.mono : ∀ a0 a1 a2 k, LeO (impl_Implied.f k a0 a1 a2) (impl_Implied.f (k + 1) a0 a1 a2) := by
  intro a0 a1 a2 k
  unfold impl_Implied.f
  repeat' first
      | (with_reducible exact impl_leastModel.mono _ _ _)
      | (with_reducible exact LeO.refl _)
      | (with_reducible exact LeO.none _)
      | (with_reducible refine LeO.ite ?_ ?_)
      | (with_reducible refine LeO.bind ?_ fun _ => ?_)
theorem cnfB_len {a : Int} {l : List (List Int)} (h : cnfB a l = true) : l.length ≤ 300 := by
  unfold cnfB at h
  simp only [Bool.and_eq_true, decide_eq_true_eq] at h
  exact h.2.2.1
theorem clauseB_len {a : Int} {l : List Int} (h : clauseB l a = true) : l.length ≤ 12 := by
  unfold clauseB at h
  simp only [Bool.and_eq_true, decide_eq_true_eq] at h
  exact h.1
theorem clauseB_lit {a : Int} {l : List Int} (h : clauseB l a = true) (x : Int) (hx : x ∈ l) : wrap64 (-a) ≤ x ∧ x ≤ a := by
  unfold clauseB at h
  simp only [Bool.and_eq_true, decide_eq_true_eq] at h
  have h2 := h.2
  rw [Bool.not_eq_true'] at h2
  have h3 := List.any_eq_false.1 h2 x hx
  simp only [Bool.not_eq_true, Bool.not_eq_false', litB, Bool.and_eq_true, decide_eq_true_eq] at h3
  exact h3.2
set_option maxHeartbeats 8000000 in
set_option maxRecDepth 100000 in
theorem impl_Implied.calls (k : Nat) (a0_0 : Int) (A0_1 : Option Addr) (c0_1 : Nat) (l0_1 : List (List Int)) (A1 : Option Addr) (c1 : Nat) (l1 : List Int) (r1 : Bool) (r2 : Int) (w : World) (hr0_1 : Kd.C (Kd.slice 3 (Kd.int .i64)) w A0_1 l0_1.length l0_1) (hc0_1 : l0_1.length ≤ c0_1) (hr1 : Kd.C (Kd.int .i64) w A1 l1.length l1) (hc1 : l1.length ≤ c1) (h : impl_Implied.f k a0_0 l0_1 l1 = some (r1, r2)) :
    Calls Try.prog 30 #[.agg #[.int .i64 a0_0, .slice A0_1 l0_1.length c0_1], .slice A1 l1.length c1] w fun e w' => e = .returned (.tuple #[.bool r1, .int .i64 r2]) ∧ Below w.heap.size w w' := by
  unfold impl_Implied.f at h
  have hu_Cnf := Try.underlying30
  have hB1 : Below w.heap.size w (w.alloc (.cells #[.int .i64 a0_0, .slice A0_1 l0_1.length c0_1] 30)) := (Below.refl _ _).alloc (Nat.le_refl _) _
  have hW : (w.alloc (.cells #[.int .i64 a0_0, .slice A0_1 l0_1.length c0_1] 30)).heap[w.heap.size]? = some (.cells #[.int .i64 a0_0, .slice A0_1 l0_1.length c0_1] 30 (0, 0)) := by
    show (w.heap.push _)[w.heap.size]? = _
    simp
  have HC0 := Aside0.mk (Kd.C_below hr0_1 hB1)
  have HC1 := Aside0.mk (Kd.C_below hr1 hB1)
  obtain ⟨W1, hW1, BX, HB1⟩ : ∃ W1, w.alloc (.cells #[.int .i64 a0_0, .slice A0_1 l0_1.length c0_1] 30) = W1 ∧ W1.heap[w.heap.size]? = some (.cells #[.int .i64 a0_0, .slice A0_1 l0_1.length c0_1] 30 (0, 0)) ∧ Below w.heap.size w W1 := ⟨_, rfl, hW, hB1⟩
  have hmax : l1.length ≤ 9223372036854775807 := Kd.C_max hr1
  rw [hW1] at HC0 HC1
  have HW1 := Aside0.mk hW1
  have HB1' := Aside0.mk HB1
  have HBX := Aside0.mk BX
  have hcnf := fun V (hV : Below W1.heap.size W1 V) => impl_isCnf.calls a0_0 A0_1 c0_1 l0_1 (cnfB a0_0 l0_1) V (Kd.C_below HC0.out hV) hc0_1 rfl
  have hcl := fun V (hV : Below W1.heap.size W1 V) => impl_isClause.calls A1 c1 l1 a0_0 (clauseB l1 a0_0) V (Kd.C_below HC1.out hV) hc1 rfl
  have hx0 : W1.cell? ⟨w.heap.size, 0, none⟩ = some (.int .i64 a0_0) := (blk_cell BX 0).trans rfl
  have hx1 : W1.cell? ⟨w.heap.size, 1, none⟩ = some (.slice A0_1 l0_1.length c0_1) := (blk_cell BX 1).trans rfl
  have hcf := hcnf W1 (Below.refl _ _)
  have HCL := Aside0.mk hcl
  clear hW hB1 hW1 BX HB1 hcnf hcl hr0_1 hr1
  by_cases t1 : (l1.length : Int) > 4096
  · rw [if_pos t1] at h
    simp only [Option.some.injEq, Prod.mk.injEq] at h
    obtain ⟨rfl, rfl⟩ := h
    go_enter Try.func30, Try.ntmps30
    go_wp2
    go_ret2
    exact ⟨rfl, by rw [HW1.out]; exact HB1'.out⟩
  · rw [if_neg t1] at h
    by_cases t2 : cnfB a0_0 l0_1 = true
    · rw [if_pos t2] at h
      have hn300 := cnfB_len t2
      rw [t2] at hcf
      have ha : 0 ≤ a0_0 ∧ a0_0 ≤ 40 := by
        have h9 := t2
        unfold cnfB at h9
        simp only [Bool.and_eq_true, decide_eq_true_eq] at h9
        exact ⟨h9.1, h9.2.1⟩
      clear t2
      by_cases t3 : clauseB l1 a0_0 = true
      · rw [if_pos t3] at h
        have hn12 := clauseB_len t3
        have hlit := Aside0.mk (clauseB_lit t3)
        rw [t3] at HCL
        clear t3
        obtain ⟨⟨m1, m2⟩, hm, h⟩ := Option.bind_eq_some_iff.1 h
        simp only [Option.some.injEq, Prod.mk.injEq] at h
        obtain ⟨rfl, rfl⟩ := h
        have HF0 := Aside0.mk (Kd.C_F (Kd.heap_slice 3 (Kd.heap_int .i64)) HC0.out)
        go_enter Try.func30, Try.ntmps30
        go_upto_region 3 with fail
        rw [HW1.out]
        go_upto_region 5 with (first
          | (go_at_call 54; refine hcf.mono ?_; rintro e w2 ⟨rfl, hb2⟩; clear hcf; have hx0 := (hb2.cell (World.block_lt_of_cell? W1 _ hx0)).trans hx0; have hc2 := HCL.out w2 hb2)
          | (go_at_call 61; refine hc2.mono ?_; rintro e w3 ⟨rfl, hb3⟩; clear hc2))
        have HB13 := Aside0.mk ((hb2.trans (hb3.mono hb2.size)).drew)
        clear hb2 hb3 hx0 hx1 HW1 HCL
        generalize hw20 : w3.drew = w20 at HB13
        refine start_ (n := 8) (S := fun w' => w'.cell? ⟨w.heap.size, 0, none⟩ = some (.int .i64 a0_0) ∧ w'.cell? ⟨w.heap.size, 1, none⟩ = some (.slice A0_1 l0_1.length c0_1)) (ds := [7]) #[false, false, false, false, false, false, false, false] (by kernel_rfl) rfl rfl (by rw [hw20]; exact ⟨(blk_cell (blk_below HBX.out HB13.out) 0).trans rfl, (blk_cell (blk_below HBX.out HB13.out) 1).trans rfl⟩) (fun hHeld => ?_)
        refine with_tabW implied_tab implied_bits (fun HT_ HW_ => ?_)
        rw [hw20] at hHeld ⊢
        clear hw20
        refine pure_ (i := 0) (N := some 26) (v := ?_) (a' := ?_) #[true, false, false, false, false, false, false, false] rfl rfl (any_of HT_.out (by kernel_rfl)) (fun _ _ _ h => h) (Or.inl ⟨by rfl, ?_⟩) ?_ ?_
        rotate_left
        · intro w'
          go_simp
          with_reducible rfl
        rotate_left
        · simp only [Act.put, List.setIfInBounds_toArray, List.set_cons_zero, List.set_cons_succ, i64_w, i32_w]
          rfl
        refine take_ (i := 1) (N := some 27) (v := ?_) (a' := ?_) #[true, true, false, false, false, false, false, false] rfl rfl (take_ofW HT_.out HW_.out (by kernel_rfl)) (fun _ _ _ h => h) (Or.inl ⟨by rfl, ?_⟩) hHeld ?_ ?_
        rotate_left
        · rintro w' ⟨s0, s1⟩
          go_simp
          with_reducible rfl
        rotate_left
        · simp only [Act.put, List.setIfInBounds_toArray, List.set_cons_zero, List.set_cons_succ, i64_w, i32_w]
          rfl
        refine pure_ (i := 2) (N := some 28) (v := ?_) (a' := ?_) #[true, true, true, false, false, false, false, false] rfl rfl (any_of HT_.out (by kernel_rfl)) (fun _ _ _ h => h) (Or.inl ⟨by rfl, ?_⟩) ?_ ?_
        rotate_left
        · intro w'
          go_simp
          with_reducible rfl
        rotate_left
        · simp only [Act.put, List.setIfInBounds_toArray, List.set_cons_zero, List.set_cons_succ, i64_w, i32_w]
          rfl
        refine take_ (i := 3) (N := some 29) (v := ?_) (a' := ?_) #[true, true, true, true, false, false, false, false] rfl rfl (take_ofW HT_.out HW_.out (by kernel_rfl)) (fun _ _ _ h => h) (Or.inl ⟨by rfl, ?_⟩) hHeld ?_ ?_
        rotate_left
        · rintro w' ⟨s0, s1⟩
          go_simp
          with_reducible rfl
        rotate_left
        · simp only [Act.put, List.setIfInBounds_toArray, List.set_cons_zero, List.set_cons_succ, i64_w, i32_w]
          rfl
        refine join_ 1 #[true, true, true, true, true, true, true, false] (fun s : Value × Nat => [(30, s.1), (31, .agg #[.int .i64 a0_0, s.1]), (6, .pointer (some ⟨s.2, 0, none⟩))]) (fun s w' => (w'.cell? ⟨w.heap.size, 0, none⟩ = some (.int .i64 a0_0) ∧ w'.cell? ⟨w.heap.size, 1, none⟩ = some (.slice A0_1 l0_1.length c0_1)) ∧ w'.heap[s.2]? = some (.cells #[.int .i64 0, .slice none 0 0] 30 (0, 0)) ∧ W1.heap.size ≤ s.2 ∧ Kd.N (Kd.slice 3 (Kd.int .i64)) 37 w' W1.heap.size (fun k_ => k_ ≠ s.2) s.1 l0_1 ∧ Below W1.heap.size W1 w') ?hcont (fun hjoin => ?_)
        rotate_left
        · refine two_ (i := 4) (j := 6) (Ni := some 30) (Nj := some 6) #[true, true, true, true, true, false, false, false] #[true, true, true, true, false, false, true, false] rfl rfl rfl rfl (two_of HT_.out (by kernel_rfl)) (by decide) (by decide) (fun K hK => ?_) (fun K hK => ?_)
          · refine call_ 74 #[.slice A0_1 l0_1.length c0_1] (by rfl) rfl ?hrun4a ?h4a
            case hrun4a =>
              have he := enters_of Try.func74 (by kernel_rfl) rfl
              unfold execOp
              simp [resolve, Deferred.ofValue, invoke, Act.eval, he]
            refine (cloneR_any A0_1 c0_1 l0_1 w20 (fun k_ => k_ < W1.heap.size) (Kd.F_below HF0.out HB13.out) (by omega)).mono ?_
            rintro e w21 ⟨v, rfl, ho, hb⟩
            obtain ⟨Av, cv, ev⟩ := Kd.N_slice ho
            subst ev
            refine ⟨_, rfl, ?_⟩
            have HB21 := HB13.out.trans (hb.mono HB13.out.size)
            refine hK.out _ _ ⟨(blk_cell (blk_below HBX.out HB21) 0).trans rfl, (blk_cell (blk_below HBX.out HB21) 1).trans rfl⟩ (fun hHeld => ?_)
            clear hK K
            refine norm_ (a' := ?_) ?_ ?_
            rotate_left
            · show Act.put _ (some 30) _ = _
              simp only [Act.put, List.setIfInBounds_toArray, List.set_cons_zero, List.set_cons_succ, i64_w, i32_w]
              rfl
            refine pure_ (i := 5) (N := some 31) (v := ?_) (a' := ?_) #[true, true, true, true, true, true, false, false] rfl rfl (any_of HT_.out (by kernel_rfl)) (fun _ _ _ h => h) (Or.inl ⟨by rfl, ?_⟩) ?_ ?_
            rotate_left
            · intro w'
              go_simp
              with_reducible rfl
            rotate_left
            · simp only [Act.put, List.setIfInBounds_toArray, List.set_cons_zero, List.set_cons_succ, i64_w, i32_w]
              rfl
            refine one_ (i := 6) (N := some 6) #[true, true, true, true, true, true, true, false] rfl rfl (one_of HT_.out (by kernel_rfl)) (by decide) (fun K hK => ?_)
            refine value_ (w1 := ?_) (v := ?_) (by rfl) rfl ?_ ?_
            rotate_left 2
            · go_simp
              constructor
              · rfl
              · rfl
            have HB22 := HB21.alloc HB21.size (.cells #[.int .i64 0, .slice none 0 0] 30)
            refine hK.out _ _ ⟨(blk_cell (blk_below HBX.out HB22) 0).trans rfl, (blk_cell (blk_below HBX.out HB22) 1).trans rfl⟩ (fun hHeld => ?_)
            clear hK K
            refine norm_ (a' := putAll _ _) ?_ (hjoin (.slice Av l0_1.length cv, w21.heap.size) _ ⟨hHeld, blk_new _ _, HB21.size, ?_, HB22⟩)
            · simp only [putAll, Act.put, List.setIfInBounds_toArray, List.set_cons_zero, List.set_cons_succ, i64_w, i32_w]
            · exact Kd.N_mono (Kd.N_alloc (Kd.N_elderB (Kd.N_lower ho HB13.out.size) w21.heap.size (Nat.le_refl _)) _) (fun k_ hk_ => hk_.2)
          · refine value_ (w1 := ?_) (v := ?_) (by rfl) rfl ?_ ?_
            rotate_left 2
            · go_simp
              constructor
              · rfl
              · rfl
            have HB21 := HB13.out.alloc HB13.out.size (.cells #[.int .i64 0, .slice none 0 0] 30)
            refine hK.out _ _ ⟨(blk_cell (blk_below HBX.out HB21) 0).trans rfl, (blk_cell (blk_below HBX.out HB21) 1).trans rfl⟩ (fun hHeld => ?_)
            clear hK K
            refine norm_ (a' := ?_) ?_ ?_
            rotate_left
            · show Act.put _ (some 6) _ = _
              simp only [Act.put, List.setIfInBounds_toArray, List.set_cons_zero, List.set_cons_succ, i64_w, i32_w]
              rfl
            refine one_ (i := 4) (N := some 30) #[true, true, true, true, true, false, true, false] rfl rfl (one_of HT_.out (by kernel_rfl)) (by decide) (fun K hK => ?_)
            refine call_ 74 #[.slice A0_1 l0_1.length c0_1] (by rfl) rfl ?hrun4b ?h4b
            case hrun4b =>
              have he := enters_of Try.func74 (by kernel_rfl) rfl
              unfold execOp
              simp [resolve, Deferred.ofValue, invoke, Act.eval, he]
            refine (cloneR_any A0_1 c0_1 l0_1 _ (fun k_ => k_ < W1.heap.size) (Kd.F_below HF0.out HB21) (by omega)).mono ?_
            rintro e w22 ⟨v, rfl, ho, hb⟩
            obtain ⟨Av, cv, ev⟩ := Kd.N_slice ho
            subst ev
            refine ⟨_, rfl, ?_⟩
            have HB22 := HB21.trans (hb.mono HB21.size)
            refine hK.out _ _ ⟨(blk_cell (blk_below HBX.out HB22) 0).trans rfl, (blk_cell (blk_below HBX.out HB22) 1).trans rfl⟩ (fun hHeld => ?_)
            clear hK K
            refine norm_ (a' := ?_) ?_ ?_
            rotate_left
            · show Act.put _ (some 30) _ = _
              simp only [Act.put, List.setIfInBounds_toArray, List.set_cons_zero, List.set_cons_succ, i64_w, i32_w]
              rfl
            refine pure_ (i := 5) (N := some 31) (v := ?_) (a' := ?_) #[true, true, true, true, true, true, true, false] rfl rfl (any_of HT_.out (by kernel_rfl)) (fun _ _ _ h => h) (Or.inl ⟨by rfl, ?_⟩) ?_ ?_
            rotate_left
            · intro w'
              go_simp
              with_reducible rfl
            rotate_left
            · simp only [Act.put, List.setIfInBounds_toArray, List.set_cons_zero, List.set_cons_succ, i64_w, i32_w]
              rfl
            refine norm_ (a' := putAll _ _) ?_ (hjoin (.slice Av l0_1.length cv, w20.heap.size) _ ⟨hHeld, blk_below (blk_new _ _) hb, HB13.out.size, ?_, HB22⟩)
            · simp only [putAll, Act.put, List.setIfInBounds_toArray, List.set_cons_zero, List.set_cons_succ, i64_w, i32_w]
            · refine Kd.N_mono (Kd.N_lower ho HB21.size) (fun k_ hk_ => ?_)
              have h7 := HB13.out.size
              rcases hk_ with hk_ | hk_
              · show k_ ≠ w20.heap.size
                omega
              · show k_ ≠ w20.heap.size
                have h8 : (w20.alloc (.cells #[.int .i64 0, .slice none 0 0] 30)).heap.size = w20.heap.size + 1 := by simp
                omega
        · rintro ⟨v, go⟩ w21 ⟨hHeld, hgo, hle, hN, hB⟩
          simp only at hHeld hgo hle hN
          obtain ⟨Av, cv, ev⟩ := Kd.N_slice hN
          subst ev
          refine norm_ (a' := ?_) ?_ ?_
          rotate_left
          · simp only [putAll, Act.put, List.setIfInBounds_toArray, List.set_cons_zero, List.set_cons_succ, i64_w, i32_w]
            rfl
          have hg0 : w21.cell? ⟨go, 0, none⟩ = some (.int .i64 0) := (blk_cell hgo 0).trans rfl
          have hg1 : w21.cell? ⟨go, 1, none⟩ = some (.slice none 0 0) := (blk_cell hgo 1).trans rfl
          have hf0 := blk_frozen hgo 0
          have hf1 := blk_frozen hgo 1
          have HGO := Aside0.mk hgo
          have HN := Aside0.mk hN
          have HB := Aside0.mk hB
          clear hgo hN hB
          refine last_ (i := 7) (N := none) #[true, true, true, true, true, true, true, true] rfl rfl (one_of HT_.out (by kernel_rfl)) (by decide) (fun K hK => ?_)
          refine skip_ (w1 := ?_) (by rfl) rfl ?_ ?_
          rotate_left
          · go_simp
            rfl
          refine hK.out _ _ ?_
          clear hK K
          have hb1 : ((w21.setCell ⟨go, 0, none⟩ (.int .i64 a0_0)).setCell ⟨go, 1, none⟩ (.slice Av l0_1.length cv)).heap[go]? = some (.cells #[.int .i64 a0_0, .slice Av l0_1.length cv] 30 (0, 0)) := (blk_set (blk_set HGO.out 0 _) 1 _).trans rfl
          have hN1 := Kd.N_far (p := ⟨go, 1, none⟩) (Kd.N_far (p := ⟨go, 0, none⟩) HN.out (fun _ hk => hk) (.int .i64 a0_0)) (fun _ hk => hk) (.slice Av l0_1.length cv)
          have hB1 := below_set (j := 1) (v := .slice Av l0_1.length cv) (below_set (j := 0) (v := .int .i64 a0_0) HB.out hle) hle
          clear HGO HN HB
          refine done_ (done_of HT_.out (by kernel_rfl)) ?_
          generalize (w21.setCell ⟨go, 0, none⟩ (.int .i64 a0_0)).setCell ⟨go, 1, none⟩ (.slice Av l0_1.length cv) = w22 at hb1 hN1 hB1
          have HG := Aside0.mk hb1
          have HN := Aside0.mk hN1
          have HB := Aside0.mk hB1
          clear hb1 hN1 hB1 hf0 hf1 hg0 hg1 HT_ HW_ hHeld
          go_wp2
          go_loopg [34] l1.length (fun gg v34 wr => ∃ (kk : Nat) (v : Value), v34 = .int .i64 kk ∧ kk ≤ l1.length ∧ l1.length - kk ≤ gg ∧ Aside0 (wr.heap[go]? = some (.cells #[.int .i64 a0_0, v] 30 (0, 0))) ∧ Aside0 (Kd.N (Kd.slice 3 (Kd.int .i64)) 37 wr W1.heap.size (fun k_ => k_ ≠ go) v (l0_1 ++ (l1.take kk).map fun x => [-x])) ∧ Aside0 (Below W1.heap.size W1 wr))
          case atStart => exact ⟨0, _, rfl, Nat.zero_le _, by omega, HG, by simpa using HN, HB⟩
          case round =>
            clear HG HN HB
            obtain ⟨kk, v, rfl, hk, hg, HG, HN, HB⟩ := hrel
            obtain ⟨Av, cv, ev⟩ := Kd.N_slice HN.out
            subst ev
            have hlen : (l0_1 ++ (l1.take kk).map fun x => [-x]).length = l0_1.length + kk := by simp [Nat.min_eq_left hk]
            by_cases hlt : kk < l1.length
            · have hltz : (kk : Int) < (l1.length : Int) := by omega
              have h0z : (0 : Int) ≤ (kk : Int) := by omega
              obtain ⟨ad, ea, hx⟩ := Kd.at_int HC1.out (kk : Int) h0z hltz
              subst ea
              rw [Int.toNat_natCast] at hx
              have hrd : rd l1 (kk : Int) = l1[kk] := by unfold rd; simp [List.getD, hlt]
              have ew : IntKind.i64.wrap ((kk : Int) + 1) = ((kk + 1 : Nat) : Int) := IntWalk.i64_in _ (by omega)
              have hx2 := (HB.out.cell (World.block_lt_of_cell? W1 _ hx)).trans hx
              have hlx := hlit.out l1[kk] (List.getElem_mem hlt)
              have h40 : wrap64 (-a0_0) = -a0_0 := by unfold wrap64; omega
              rw [h40, ← hrd] at hlx
              have hnext : (l0_1 ++ (l1.take (kk + 1)).map fun x => [-x]) = (l0_1 ++ (l1.take kk).map fun x => [-x]) ++ [[-(rd l1 (kk : Int))]] := by
                rw [hrd, List.take_succ_eq_append_getElem hlt, List.map_append, ← List.append_assoc]
                rfl
              clear hx
              generalize rd l1 (kk : Int) = x at hx2 hlx hnext
              have ex : IntKind.i64.wrap (-x) = -x := IntWalk.i64_in _ (by omega)
              obtain ⟨ys, hys⟩ : ∃ ys, (l0_1 ++ (l1.take kk).map fun x => [-x]) = ys := ⟨_, rfl⟩
              rw [hys] at HN HG hnext hlen
              obtain ⟨zs, hzs⟩ : ∃ zs, (l0_1 ++ (l1.take (kk + 1)).map fun x => [-x]) = zs := ⟨_, rfl⟩
              rw [hzs] at hnext
              have HZS := Aside0.mk hzs
              clear hzs
              have hc1 : wr.cell? ⟨go, 1, none⟩ = some (.slice Av ys.length cv) := (blk_cell HG.out 1).trans rfl
              have HNX := Aside0.mk hnext
              have HLEN := Aside0.mk hlen
              clear hlen
              have HGL := Aside0.mk (blk_lt HG.out)
              clear hys hlx hrd hnext h40
              go_wp2_with (first
                | ((with_reducible refine gate_dst (N := 42) rfl ?_); refine Kd.R_lit (Kd.int .i64) _ 3 ?hg (N := 42) ?hd (xs := ([-x] : List Int)) (inner := [.int .i64 (-x)]) (ok := fun k_ => wr.heap.size ≤ k_) (okp := fun _ => False) ?hr ?hp (fun _ hk => hk.elim) (Nat.le_refl _) (Below.refl _ _) (Nat.le_refl _) (by simp) ?_; (case hd => rfl); (case hg => rfl); (case hr => first | (go_simp; done) | (go_simp; rfl)); (case hp => exact Reps.one rfl (Reps.none _ _)); intro v42 w3 ho hb hg_ hnew_; obtain ⟨A42, c42, e42⟩ := Kd.R_slice ho; subst e42; have HO := Aside0.mk ho; have HB3 := Aside0.mk hb; clear ho hb hg_ hnew_)
                | ((with_reducible refine gate_builtin (b := .append) (xs := #[.tmp 39, .tmp 43]) rfl ?_); at_builtin; refine Kd.N_append (Kd.slice 3 (Kd.int .i64)) (w0 := W1) W1.heap.size rfl (.tmp 39) (.tmp 43) 22 37 (.slice none 0 0) 24 rfl Try.underlying22 info37 rfl (by decide) (by omega) _ ys [-x] [.slice A42 1 c42] (fun k_ => k_ ≠ go) (fun k_ => wr.heap.size ≤ k_ ∧ k_ < w3.heap.size) rfl rfl ?aP ?aK ?aF ?aO ?aB ?aS ?aL ?_; (case aP => exact Kd.FK_mono (Kd.FK_bound (Kd.FK_of_M (show (Kd.slice 3 (Kd.int .i64)).M w3 wr.heap.size (fun k_ => wr.heap.size ≤ k_) [-x] [.slice A42 1 c42] from ⟨_, rfl, HO.out⟩))) (fun _ hk_ => hk_)); (case aK => exact fun k_ hk_ => ⟨by have := HGL.out; have := hk_.1; omega, fun e_ => by have := Kd.N_lt HN.out k_ e_.symm; have := hk_.1; omega⟩); (case aF => exact fun k_ hk_ => by have := HGL.out; have := HB3.out.size; omega); (case aO => exact Kd.N_below HN.out HB3.out); (case aB => exact HB.out.trans (HB3.out.mono HB.out.size)); (case aS => exact Nat.le_trans HB.out.size HB3.out.size); (case aL => have := HLEN.out; omega); intro v1 w4 ho hb hg2 hat; rw [← HNX.out] at ho; obtain ⟨A9, c9, e9⟩ := Kd.N_slice ho; subst e9; have HN4 := Aside0.mk ho; have HB4 := Aside0.mk hb; have HG4 := Aside0.mk (blk_grown (blk_below HG.out HB3.out) hg2 (Kd.N_away HN.out (fun _ hk_ => hk_))); have hf9 := blk_frozen HG4.out 1; have hc9 : w4.cell? ⟨go, 1, none⟩ = some (.slice Av ys.length cv) := (by have := (blk_cell HG4.out 1); exact this.trans rfl); clear ho hb hg2 hat))
              have hb5 : (w4.setCell ⟨go, 1, none⟩ (.slice A9 zs.length c9)).heap[go]? = some (.cells #[.int .i64 a0_0, .slice A9 zs.length c9] 30 (0, 0)) := (blk_set HG4.out 1 _).trans rfl
              have hN5 := Kd.N_far (p := ⟨go, 1, none⟩) HN4.out (fun _ hk => hk) (.slice A9 zs.length c9)
              have hB5 := below_set (j := 1) (v := .slice A9 zs.length c9) HB4.out hle
              go_roundg (gk - 1)
              case measure => omega
              case rel => exact ⟨kk + 1, _, rfl, by omega, by omega, ⟨hb5⟩, ⟨by rw [HZS.out]; exact hN5⟩, ⟨hB5⟩⟩
            · obtain rfl : kk = l1.length := by omega
              rw [List.take_length] at HN HG
              obtain ⟨zs, hzs⟩ : ∃ zs, (l0_1 ++ l1.map fun x => [-x]) = zs := ⟨_, rfl⟩
              rw [hzs] at hm HN HG
              have hgc0 : wr.cell? ⟨go, 0, none⟩ = some (.int .i64 a0_0) := (blk_cell HG.out 0).trans rfl
              have hgc1 : wr.cell? ⟨go, 1, none⟩ = some (.slice Av zs.length cv) := (blk_cell HG.out 1).trans rfl
              obtain ⟨-, hcv, hCC⟩ := Kd.N_reads' HN.out
              have hcall := impl_leastModel.calls k a0_0 Av cv zs m1 m2 wr hCC hcv hm
              clear hlen hzs hCC hcv hm
              go_wp2_with (go_at_call 75; refine hcall.mono ?_; rintro e w5 ⟨v5, rfl, -, hb5⟩)
              go_ret2
              exact ⟨rfl, HB1'.out.trans ((HB.out.trans (hb5.mono HB.out.size)).mono HB1'.out.size)⟩
      · rw [if_neg t3] at h
        simp only [Option.some.injEq, Prod.mk.injEq] at h
        obtain ⟨rfl, rfl⟩ := h
        rw [Bool.eq_false_iff.2 t3] at HCL
        clear t3
        go_enter Try.func30, Try.ntmps30
        go_upto_region 3 with fail
        rw [HW1.out]
        go_wp2_with (first
          | (go_at_call 54; refine hcf.mono ?_; rintro e w2 ⟨rfl, hb2⟩; have hx0 := (hb2.cell (World.block_lt_of_cell? W1 _ hx0)).trans hx0; have hc2 := HCL.out w2 hb2)
          | (go_at_call 61; refine hc2.mono ?_; rintro e w3 ⟨rfl, hb3⟩))
        go_ret2
        exact ⟨rfl, HB1'.out.trans ((hb2.trans (hb3.mono hb2.size)).mono HB1'.out.size)⟩
    · rw [if_neg t2] at h
      simp only [Option.some.injEq, Prod.mk.injEq] at h
      obtain ⟨rfl, rfl⟩ := h
      rw [Bool.eq_false_iff.2 t2] at hcf
      clear t2 HCL
      go_enter Try.func30, Try.ntmps30
      go_upto_region 3 with fail
      rw [HW1.out]
      go_wp2_with (go_at_call 54; refine hcf.mono ?_; rintro e w2 ⟨rfl, hb2⟩)
      go_ret2
      exact ⟨rfl, HB1'.out.trans (hb2.mono HB1'.out.size)⟩

end Go.Proofs.Ytelfahcjeldliaa.PFnExactImplied
