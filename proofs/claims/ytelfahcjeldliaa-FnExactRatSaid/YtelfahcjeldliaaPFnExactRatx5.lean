/- WRITTEN BY A PROGRAM OF THIS SESSION (wip/xprint) OVER THE KIT's PRINT, FOR THIS CLAIM: for Go functions that the law reaches, one Lean function each and the proof that Go's call comes to its answer. No conditions but those that each theorem names. -/
import Derived.Test.YtelfahcjeldliaaPFnExactRatx0
import Derived.Test.YtelfahcjeldliaaPFnExactRatx4
namespace Go.Proofs.Ytelfahcjeldliaa.PFnExactRat
open Go.RowKit Go.Proofs.YtelfahcjeldliaaW.PrintWords Go.Proofs.YtelfahcjeldliaaW.PrintLast Go.Proofs.YtelfahcjeldliaaW.PrintMore
attribute [local go_sem] max2_int min2_int max_two min_two max_three min_three max_four min_four   -- for this text's walks alone
set_option linter.unusedVariables false
set_option linter.unusedSimpArgs false

/-! ### impl_isCnf: function 54 -/
/-- a right formula -/
def cnfB (vars : Int) (cs : List (List Int)) : Bool := decide (0 ≤ vars) && (decide (vars ≤ 40) && (decide (cs.length ≤ 300) && !(cs.any fun c => !(clauseB c vars))))
theorem below_drewN' {B : Nat} {a w : World} (h : Below B a w) (q : Nat) : Below B a (w.drewN q) := ⟨h.os, h.tape, h.output, h.size, h.block⟩
set_option maxHeartbeats 4000000 in
set_option maxRecDepth 100000 in
theorem isCnf_fn (A0 : Option Addr) (c0 : Nat) (l0 : List Int) (vars : Int) (B : Nat) (W : World) (hr0 : Kd.C (Kd.int .i64) W A0 l0.length l0) (hc0 : l0.length ≤ c0) (hB : W.cell? ⟨B, 0, none⟩ = some (.int .i64 vars)) :
    Calls Try.prog 99 #[.slice A0 l0.length c0, .pointer (some ⟨B, 0, none⟩)] W fun e W' => e = .returned (.bool (!(clauseB l0 vars))) ∧ Below W.heap.size W W' := by
  have hcall := fun V hV => impl_isClause.calls A0 c0 l0 vars _ V hV hc0 rfl
  have HR := Aside0.mk hr0
  clear hr0
  generalize clauseB l0 vars = b at hcall ⊢
  go_enter Try.func99, Try.ntmps99
  go_wp2_with (go_at_call 61; refine (hcall _ HR.out).mono ?_; rintro e w' ⟨rfl, hb⟩)
  go_ret
  exact ⟨rfl, hb⟩
def impl_isCnf.f (a0_0 : Int) (l0_1 : List (List Int)) : Option Bool := some (cnfB a0_0 l0_1)
set_option maxHeartbeats 4000000 in
set_option maxRecDepth 100000 in
theorem impl_isCnf.calls (a0_0 : Int) (A0_1 : Option Addr) (c0_1 : Nat) (l0_1 : List (List Int)) (r : Bool) (w : World) (hr0_1 : Kd.C (Kd.slice 3 (Kd.int .i64)) w A0_1 l0_1.length l0_1) (hc0_1 : l0_1.length ≤ c0_1) (h : impl_isCnf.f a0_0 l0_1 = some r) :
    Calls Try.prog 54 #[.agg #[.int .i64 a0_0, .slice A0_1 l0_1.length c0_1]] w fun e w' => e = .returned (.bool r) ∧ Below w.heap.size w w' := by
  obtain rfl : cnfB a0_0 l0_1 = r := Option.some.inj h
  clear h
  unfold cnfB
  have hu := Try.underlying30
  have hwi : ∀ V, Calls Try.prog 83 #[.int .i64 a0_0, .int .i64 0, .int .i64 40] V fun e V' => e = .returned (.bool (decide (0 ≤ a0_0) && decide (a0_0 ≤ 40))) ∧ Drawn0 V V' := fun V =>
    impl_within.calls a0_0 0 40 _ V (by
      unfold impl_within.f
      by_cases h : a0_0 ≥ 0
      · rw [if_pos h, decide_eq_true h, Bool.true_and]
      · rw [if_neg h, decide_eq_false h, Bool.false_and])
  have hcon := fun (W : World) (hbW : W.cell? ⟨w.heap.size, 0, none⟩ = some (.int .i64 a0_0)) (hlt : w.heap.size < W.heap.size) (hr : Kd.C (Kd.slice 3 (Kd.int .i64)) W A0_1 l0_1.length l0_1) =>
    anyIntsL (fun c => !(clauseB c a0_0)) 99 #[.pointer (some ⟨w.heap.size, 0, none⟩)] (enters_of Try.func99 (by kernel_rfl) rfl) A0_1 l0_1 c0_1 W hr
      (fun A0 c0 x W' hb hC hc => isCnf_fn A0 c0 x a0_0 _ W' hC hc ((hb.cell (p := ⟨w.heap.size, 0, none⟩) hlt).trans hbW))
  have hB0 : Below w.heap.size w (w.alloc (.cells #[.int .i64 a0_0, .slice A0_1 l0_1.length c0_1] 30)) := (Below.refl _ _).alloc (Nat.le_refl _) _
  have HR := Aside0.mk hr0_1
  have HC := Aside0.mk hc0_1
  clear hr0_1 hc0_1
  generalize (l0_1.any fun c => !(clauseB c a0_0)) = b at hcon ⊢
  cases hv : (decide (0 ≤ a0_0) && decide (a0_0 ≤ 40)) with
  | false =>
    have e1 : (decide (0 ≤ a0_0) && (decide (a0_0 ≤ 40) && (decide (l0_1.length ≤ 300) && !b))) = false := by rw [← Bool.and_assoc, hv, Bool.false_and]
    rw [e1]
    rw [hv] at hwi
    clear hcon hv e1
    go_enter Try.func54, Try.ntmps54
    go_wp2_with (go_at_call 83; refine (hwi _).mono ?_; rintro e w' ⟨rfl, ⟨nd, rfl⟩⟩)
    go_ret
    exact ⟨rfl, below_drewN' hB0 _⟩
  | true =>
    have e1 : (decide (0 ≤ a0_0) && (decide (a0_0 ≤ 40) && (decide (l0_1.length ≤ 300) && !b))) = (decide (l0_1.length ≤ 300) && !b) := by rw [← Bool.and_assoc, hv, Bool.true_and]
    rw [e1]
    rw [hv] at hwi
    clear hv e1
    by_cases hle : l0_1.length ≤ 300
    · have hle2 : decide (l0_1.length ≤ 300) = true := decide_eq_true hle
      rw [hle2, Bool.true_and]
      go_enter Try.func54, Try.ntmps54
      go_wp2_with (first | (go_at_call 83; refine (hwi _).mono ?_; rintro e w' ⟨rfl, ⟨nd, rfl⟩⟩) | (go_at_call 98; refine (hcon _ (by simp) (by simp) (Kd.C_below HR.out (below_drewN' hB0 _))).mono ?_; rintro e w' ⟨rfl, hb⟩))
      go_ret
      exact ⟨rfl, (below_drewN' hB0 _).trans (hb.mono (below_drewN' hB0 _).size)⟩
    · have hle2 : decide (l0_1.length ≤ 300) = false := decide_eq_false hle
      rw [hle2, Bool.false_and]
      have hle3 : 300 < l0_1.length := by omega
      clear hcon
      go_enter Try.func54, Try.ntmps54
      go_wp2_with (go_at_call 83; refine (hwi _).mono ?_; rintro e w' ⟨rfl, ⟨nd, rfl⟩⟩)
      go_ret
      exact ⟨rfl, below_drewN' hB0 _⟩

/-! ### impl_state_is: function 69 -/
/-- a literal is true under values -/
def isL (vals : List Int) (x : Int) : Bool := if x < 0 then rd vals (-x) == -1 else rd vals x == 1
/-- the values with a literal made true -/
def setL (vals : List Int) (x : Int) : List Int := if x < 0 then vals.set (-x).toNat (-1) else vals.set x.toNat 1
theorem setL_length (vals : List Int) (x : Int) : (setL vals x).length = vals.length := by
  unfold setL
  split <;> simp
/-- the literal that a clause makes true, and whether all its literals are false -/
def unitL (vals : List Int) : List Int → Int → Int × Bool
  | [], one => (one, one == 0)
  | x :: r, one => if isL vals x = true then (0, false) else if isL vals (-x) = true then unitL vals r one else if x = one then unitL vals r one else if one = 0 then unitL vals r x else (0, false)
/-- literals that the values have -/
def fitL (n : Nat) (c : List Int) : Bool := c.all fun x => decide (x.natAbs < n)
theorem fitL_at {n : Nat} {c : List Int} (h : fitL n c = true) (k : Nat) (hk : k < c.length) : c[k].natAbs < n := by
  have := List.all_eq_true.1 h c[k] (List.getElem_mem hk)
  exact of_decide_eq_true this
set_option maxHeartbeats 4000000 in
theorem is_any (g : Nat) (vals : List Int) (A : Option Addr) (c : Nat) (x : Int) (W : World) (hs : W.cell? ⟨g, 2, none⟩ = some (.slice A vals.length c)) (hC : Kd.C (Kd.int .i64) W A vals.length vals) (hx : x.natAbs < vals.length) (hn : vals.length ≤ 4096) :
    Calls Try.prog 69 #[.pointer (some ⟨g, 0, none⟩), .int .i64 x] W fun e W' => e = .returned (.bool (isL vals x)) ∧ W' = W := by
  unfold isL
  by_cases h : x < 0
  · rw [if_pos h]
    have e1 : IntKind.i64.wrap (-x) = -x := IntWalk.i64_in _ (by omega)
    obtain ⟨ad, ea, hc⟩ := Kd.at_int hC (-x) (by omega) (by omega)
    subst ea
    have p0 : 0 ≤ -x := by omega
    have p1 : -x < (vals.length : Int) := by omega
    clear hC
    go_enter Try.func69, Try.ntmps69
    go_wp2
    go_ret
    exact ⟨rfl, rfl⟩
  · rw [if_neg h]
    obtain ⟨ad, ea, hc⟩ := Kd.at_int hC x (by omega) (by omega)
    subst ea
    have p0 : 0 ≤ x := by omega
    have p1 : x < (vals.length : Int) := by omega
    clear hC
    go_enter Try.func69, Try.ntmps69
    go_wp2
    go_ret
    exact ⟨rfl, rfl⟩

/-! ### impl_state_set: function 70 -/
set_option maxHeartbeats 4000000 in
theorem set_any (g b : Nat) (n c : Nat) (x old : Int) (W : World) (hs : W.cell? ⟨g, 2, none⟩ = some (.slice (some ⟨b, 0, none⟩) n c)) (hx : x.natAbs < n) (hn : n ≤ 4096) (hc : W.cell? ⟨b, x.natAbs, none⟩ = some (.int .i64 old)) (hf : W.frozen? ⟨b, x.natAbs, none⟩ = false) :
    Calls Try.prog 70 #[.pointer (some ⟨g, 0, none⟩), .int .i64 x] W fun e W' => e = .returned (.tuple #[]) ∧ W' = W.setCell ⟨b, x.natAbs, none⟩ (.int .i64 (if x < 0 then -1 else 1)) := by
  by_cases h : x < 0
  · rw [if_pos h]
    have e1 : IntKind.i64.wrap (-x) = -x := IntWalk.i64_in _ (by omega)
    have e2 : x.natAbs = (-x).toNat := by omega
    rw [e2] at hc hf ⊢
    have p0 : 0 ≤ -x := by omega
    have p1 : -x < (n : Int) := by omega
    clear e2 hx
    go_enter Try.func70, Try.ntmps70
    go_wp2
    first | go_end0 | ((try simp only [Exit.inBlock, Exit.then]); refine bodyPost_ret (results_none rfl _ _ _) rfl ?_)
    exact ⟨rfl, rfl⟩
  · rw [if_neg h]
    have e2 : x.natAbs = x.toNat := by omega
    rw [e2] at hc hf ⊢
    have p0 : 0 ≤ x := by omega
    have p1 : x < (n : Int) := by omega
    clear e2 hx
    go_enter Try.func70, Try.ntmps70
    go_wp2
    first | go_end0 | ((try simp only [Exit.inBlock, Exit.then]); refine bodyPost_ret (results_none rfl _ _ _) rfl ?_)
    exact ⟨rfl, rfl⟩

/-! ### impl_state_unit: function 106 -/
set_option maxHeartbeats 8000000 in
set_option maxRecDepth 100000 in
theorem unit_any (g : Nat) (vals : List Int) (A : Option Addr) (c : Nat) (A1 : Option Addr) (c1 : Nat) (l : List Int) (W : World) (hs : W.cell? ⟨g, 2, none⟩ = some (.slice A vals.length c)) (hC : Kd.C (Kd.int .i64) W A vals.length vals) (hl : Kd.C (Kd.int .i64) W A1 l.length l) (hfit : fitL vals.length l = true) (hn : vals.length ≤ 4096) :
    Calls Try.prog 106 #[.pointer (some ⟨g, 0, none⟩), .slice A1 l.length c1] W fun e W' => e = .returned (.tuple #[.int .i64 (unitL vals l 0).1, .bool (unitL vals l 0).2]) ∧ W' = W := by
  have his := fun x hx => is_any g vals A c x W hs hC hx hn
  have HN := Aside0.mk hn
  have HF := Aside0.mk hfit
  have HL := Aside0.mk hl
  have hmax : l.length ≤ 9223372036854775807 := Kd.C_max hl
  clear hs hC hl hfit hn
  have HI := Aside0.mk his
  clear his
  obtain ⟨r, hr⟩ : ∃ r, unitL vals l 0 = r := ⟨_, rfl⟩
  rw [hr]
  have H' : Aside0 (unitL vals (l.drop 0) 0 = r) := ⟨by rw [List.drop_zero]; exact hr⟩
  clear hr
  go_enter Try.func106, Try.ntmps106
  go_wp2
  go_loopg [6, 11] l.length (fun gg v6 v11 wr => ∃ (one : Int) (kk : Nat), v6 = .int .i64 one ∧ v11 = .int .i64 kk ∧ kk ≤ l.length ∧ l.length - kk ≤ gg ∧ Aside0 (unitL vals (l.drop kk) one = r) ∧ wr = W)
  case atStart => exact ⟨0, 0, rfl, rfl, Nat.zero_le _, by omega, H', rfl⟩
  case round =>
    clear H'
    obtain ⟨one, kk, rfl, rfl, hk, hg, HA, rfl⟩ := hrel
    by_cases hlt : kk < l.length
    · have hltz : (kk : Int) < (l.length : Int) := by omega
      have h0z : (0 : Int) ≤ (kk : Int) := by omega
      obtain ⟨ad, ea, hx⟩ := Kd.at_int HL.out (kk : Int) h0z hltz
      subst ea
      rw [Int.toNat_natCast] at hx
      have hrd : rd l (kk : Int) = l[kk] := by unfold rd; simp [List.getD, hlt]
      have hA := HA.out
      rw [List.drop_eq_getElem_cons hlt, unitL, ← hrd] at hA
      have hfx : (rd l (kk : Int)).natAbs < vals.length := by rw [hrd]; exact fitL_at HF.out kk hlt
      have ew : IntKind.i64.wrap ((kk : Int) + 1) = ((kk + 1 : Nat) : Int) := IntWalk.i64_in _ (by omega)
      clear hrd HA
      generalize rd l (kk : Int) = x at hx hA hfx
      have hn := HN.out
      have ex : IntKind.i64.wrap (-x) = -x := IntWalk.i64_in _ (by omega)
      have h1 := HI.out x hfx
      have h2 := HI.out (-x) (by omega)
      clear hfx hn
      cases ha : isL vals x with
      | true =>
        rw [ha, if_pos rfl] at hA
        rw [ha] at h1
        subst hA
        clear ha
        go_wp2_with (go_at_call 69; refine h1.mono ?_; rintro e w' ⟨rfl, rfl⟩)
        go_ret2
        exact ⟨rfl, rfl⟩
      | false =>
        rw [ha, if_neg Bool.false_ne_true] at hA
        rw [ha] at h1
        clear ha
        cases hb : isL vals (-x) with
        | true =>
          rw [hb, if_pos rfl] at hA
          rw [hb] at h2
          clear hb
          have HA2 := Aside0.mk hA
          clear hA
          go_wp2_with (go_at_call 69; first | (refine h1.mono ?_; rintro e w' ⟨rfl, rfl⟩; clear h1) | (refine h2.mono ?_; rintro e w' ⟨rfl, rfl⟩; clear h2))
          go_roundg (gk - 1)
          case measure => omega
          case rel => exact ⟨one, kk + 1, rfl, rfl, by omega, by omega, HA2, rfl⟩
        | false =>
          rw [hb, if_neg Bool.false_ne_true] at hA
          rw [hb] at h2
          clear hb
          by_cases hxo : x = one
          · rw [if_pos hxo] at hA
            subst hxo
            have HA2 := Aside0.mk hA
            clear hA
            go_wp2_with (go_at_call 69; first | (refine h1.mono ?_; rintro e w' ⟨rfl, rfl⟩; clear h1) | (refine h2.mono ?_; rintro e w' ⟨rfl, rfl⟩; clear h2))
            go_roundg (gk - 1)
            case measure => omega
            case rel => exact ⟨x, kk + 1, rfl, rfl, by omega, by omega, HA2, rfl⟩
          · rw [if_neg hxo] at hA
            have hxo2 : (x == one) = false := beq_eq_false_iff_ne.mpr hxo
            by_cases h0 : one = 0
            · rw [if_pos h0] at hA
              subst h0
              have HA2 := Aside0.mk hA
              clear hA
              go_wp2_with (go_at_call 69; first | (refine h1.mono ?_; rintro e w' ⟨rfl, rfl⟩; clear h1) | (refine h2.mono ?_; rintro e w' ⟨rfl, rfl⟩; clear h2))
              go_roundg (gk - 1)
              case measure => omega
              case rel => exact ⟨x, kk + 1, rfl, rfl, by omega, by omega, HA2, rfl⟩
            · rw [if_neg h0] at hA
              subst hA
              have h02 : (one != 0) = true := bne_iff_ne.mpr h0
              go_wp2_with (go_at_call 69; first | (refine h1.mono ?_; rintro e w' ⟨rfl, rfl⟩; clear h1) | (refine h2.mono ?_; rintro e w' ⟨rfl, rfl⟩; clear h2))
              go_ret2
              exact ⟨rfl, rfl⟩
    · have hA := HA.out
      obtain rfl : kk = l.length := by omega
      rw [List.drop_length, unitL] at hA
      subst hA
      go_wp2
      go_ret2
      exact ⟨rfl, rfl⟩

/-! ### impl_state_propagate: function 71 -/
/-- a state in memory: block g holds it, block b its values; its formula lies in w0 -/
structure ST (w0 W : World) (g b : Nat) (vars : Int) (A : Option Addr) (n c cv : Nat) (vals : List Int) : Prop where
  base : Below w0.heap.size w0 W
  old : w0.heap.size ≤ g
  blk : W.heap[g]? = some (.cells #[.int .i64 vars, .slice A n c, .slice (some ⟨b, 0, none⟩) vals.length cv] 112 (0, 0))
  own : Kd.R (Kd.int .i64) 3 W w0.heap.size (fun _ => True) (.slice (some ⟨b, 0, none⟩) vals.length cv) vals
section
variable {w0 W W2 : World} {g b : Nat} {vars : Int} {A : Option Addr} {n c cv : Nat} {vals : List Int}
theorem ST.ne (h : ST w0 W g b vars A n c cv vals) : g ≠ b := fun e => Kd.R_ne h.own h.blk (by decide) (by simp [Value.ownBlock, e])
theorem ST.glt (h : ST w0 W g b vars A n c cv vals) : g < W.heap.size := blk_lt h.blk
theorem ST.blt (h : ST w0 W g b vars A n c cv vals) : b < W.heap.size := Kd.R_lt h.own b (by simp [Value.ownBlock])
theorem ST.bold (h : ST w0 W g b vars A n c cv vals) : w0.heap.size ≤ b := Kd.R_base h.own b (by simp [Value.ownBlock])
theorem ST.cells (h : ST w0 W g b vars A n c cv vals) : W.cell? ⟨g, 0, none⟩ = some (.int .i64 vars) ∧ W.cell? ⟨g, 1, none⟩ = some (.slice A n c) ∧ W.cell? ⟨g, 2, none⟩ = some (.slice (some ⟨b, 0, none⟩) vals.length cv) :=
  ⟨(blk_cell h.blk 0).trans rfl, (blk_cell h.blk 1).trans rfl, (blk_cell h.blk 2).trans rfl⟩
theorem ST.reads (h : ST w0 W g b vars A n c cv vals) : Kd.C (Kd.int .i64) W (some ⟨b, 0, none⟩) vals.length vals := (Kd.R_reads' h.own).2.2
theorem ST.grown {row : Option Nat} (h : ST w0 W g b vars A n c cv vals) (hg : W.grownBy W2 row) (hB : Below w0.heap.size w0 W2) (h1 : row ≠ some g) (h2 : row ≠ some b) : ST w0 W2 g b vars A n c cv vals :=
  ⟨hB, h.old, (hg.block g h.glt (fun e => h1 e.symm)).trans h.blk, Kd.R_grown1 h.own rfl hg h2⟩
theorem ST.below (h : ST w0 W g b vars A n c cv vals) (hB : Below W.heap.size W W2) : ST w0 W2 g b vars A n c cv vals :=
  ⟨h.base.trans (hB.mono h.base.size), h.old, (hB.block g h.glt).trans h.blk, Kd.R_below h.own hB⟩
theorem ST.set (h : ST w0 W g b vars A n c cv vals) (x : Int) : ST w0 (W.setCell ⟨b, x.natAbs, none⟩ (.int .i64 (if x < 0 then -1 else 1))) g b vars A n c cv (setL vals x) := by
  have hb : ∀ u, (W.setCell ⟨b, x.natAbs, none⟩ u).heap[g]? = W.heap[g]? := fun u => Below.heap_setCell W ⟨b, x.natAbs, none⟩ u g h.ne
  have hs := below_set (j := x.natAbs) (v := .int .i64 (if x < 0 then -1 else 1)) h.base h.bold
  refine ⟨hs, h.old, ?_, ?_⟩
  · rw [hb, setL_length]
    exact h.blk
  · rw [setL_length]
    unfold setL
    by_cases hx : x < 0
    · rw [if_pos hx, if_pos hx]
      have e : x.natAbs = (-x).toNat := by omega
      rw [e]
      exact (Kd.R_putg h.own (-x) (-1)).1
    · rw [if_neg hx, if_neg hx]
      have e : x.natAbs = x.toNat := by omega
      rw [e]
      exact (Kd.R_putg h.own x 1).1
end
/-- the first clause that is false, and the first literal that a clause makes true -/
def scanL (vals : List Int) : List (List Int) → Nat → Int → Option Nat × Int
  | [], _, next => (none, next)
  | c :: r, i, next => if (unitL vals c 0).2 = true then (some i, next) else scanL vals r (i + 1) (if next = 0 then (unitL vals c 0).1 else next)
/-- what follows, and the clause that is false then -/
def propL (cs : List (List Int)) : Nat → List Int → List Int → Option (List Int × List Int × Int)
  | 0, _, _ => none
  | k + 1, vals, list => match scanL vals cs 0 0 with
    | (some i, _) => some (vals, list, (i : Int))
    | (none, next) => if next = 0 then some (vals, list, -1) else if list.length < 17592186044416 then propL cs k (setL vals next) (list ++ [next]) else none
theorem unitL_fit {n : Nat} (vals : List Int) : ∀ (c : List Int) (one : Int), fitL n c = true → one.natAbs < n → (unitL vals c one).1.natAbs < n
  | [], one, _, h => h
  | x :: r, one, hf, h => by
    unfold fitL at hf
    rw [List.all_cons, Bool.and_eq_true] at hf
    have hx := of_decide_eq_true hf.1
    unfold unitL
    split
    · show (0 : Int).natAbs < n
      omega
    · split
      · exact unitL_fit vals r one hf.2 h
      · split
        · exact unitL_fit vals r one hf.2 h
        · split
          · exact unitL_fit vals r x hf.2 hx
          · show (0 : Int).natAbs < n
            omega
theorem scanL_fit {n : Nat} (vals : List Int) : ∀ (cs : List (List Int)) (i : Nat) (next : Int), (cs.all fun c => fitL n c) = true → next.natAbs < n → (scanL vals cs i next).2.natAbs < n
  | [], _, _, _, h => h
  | c :: r, i, next, hf, h => by
    rw [List.all_cons, Bool.and_eq_true] at hf
    unfold scanL
    split
    · exact h
    · refine scanL_fit vals r (i + 1) _ hf.2 ?_
      split
      · exact unitL_fit vals c 0 hf.1 (by omega)
      · exact h
theorem set_st (g b : Nat) (vars : Int) (A : Option Addr) (n c cv : Nat) (vals : List Int) (x : Int) (w0 w : World) (hS : ST w0 w g b vars A n c cv vals) (hx : x.natAbs < vals.length) (hn : vals.length ≤ 4096) :
    Calls Try.prog 70 #[.pointer (some ⟨g, 0, none⟩), .int .i64 x] w fun e W' => e = .returned (.tuple #[]) ∧ W' = w.setCell ⟨b, x.natAbs, none⟩ (.int .i64 (if x < 0 then -1 else 1)) := by
  obtain ⟨hcx, hfx⟩ := Kd.R_celln 0 hS.own (x.natAbs : Int) (by omega) (by omega)
  rw [Int.toNat_natCast] at hcx hfx
  exact set_any g b vals.length cv x _ w hS.cells.2.2 hx hn hcx hfx
theorem propL_mono (cs : List (List Int)) : ∀ (k : Nat) (vals list : List Int), LeO (propL cs k vals list) (propL cs (k + 1) vals list)
  | 0, _, _ => fun r h => by simp [propL] at h
  | k + 1, vals, list => by
    intro r h
    rw [propL] at h ⊢
    generalize scanL vals cs 0 0 = q at h ⊢
    obtain ⟨o, next⟩ := q
    cases o with
    | some i => exact h
    | none =>
      simp only at h ⊢
      by_cases h0 : next = 0
      · rw [if_pos h0] at h ⊢
        exact h
      · rw [if_neg h0] at h ⊢
        by_cases h1 : list.length < 17592186044416
        · rw [if_pos h1] at h ⊢
          exact propL_mono cs k _ _ r h
        · rw [if_neg h1] at h
          cases h
set_option maxHeartbeats 8000000 in
set_option maxRecDepth 100000 in
theorem propagate_any (k : Nat) (g b : Nat) (vars : Int) (A : Option Addr) (c cv : Nat) (cs : List (List Int)) (vals vals2 list : List Int) (at_ : Int) (w0 w : World) (hS : ST w0 w g b vars A cs.length c cv vals) (hC : Kd.C (Kd.slice 3 (Kd.int .i64)) w0 A cs.length cs) (hfit : (cs.all fun c => fitL vals.length c) = true) (hn : vals.length ≤ 4096) (hp : 0 < vals.length) (h : propL cs k vals [] = some (vals2, list, at_)) :
    Calls Try.prog 71 #[.pointer (some ⟨g, 0, none⟩)] w fun e W' => ∃ v, e = .returned (.tuple #[v, .int .i64 at_]) ∧ Kd.R (Kd.int .i64) 3 W' w.heap.size (fun _ => True) v list ∧ ST w0 W' g b vars A cs.length c cv vals2 ∧ vals2.length = vals.length ∧ KeepBut w W' b none ∧ Below w0.heap.size w0 W' := by
  have HS := Aside0.mk hS
  have HC := Aside0.mk hC
  have HF := Aside0.mk hfit
  have HN := Aside0.mk hn
  have HP := Aside0.mk hp
  have HLT := Aside0.mk (And.intro hS.glt hS.blt)
  have HK := Aside0.mk (KeepBut.refl w b none)
  have HR := Aside0.mk (Kd.R_nil (Kd.int .i64) 3 w w.heap.size (fun k_ => w.heap.size ≤ k_))
  have H' := Aside0.mk h
  have hmax : cs.length ≤ 9223372036854775807 := Kd.C_max hC
  clear hS hC hfit hn hp h
  go_enter Try.func71, Try.ntmps71
  go_wp2
  go_loopg [4] k (fun gg v4 wr => ∃ (va li : List Int), va.length = vals.length ∧ Aside0 (propL cs gg va li = some (vals2, list, at_)) ∧ Aside0 (ST w0 wr g b vars A cs.length c cv va) ∧ Aside0 (Kd.R (Kd.int .i64) 3 wr w.heap.size (fun k_ => w.heap.size ≤ k_) v4 li) ∧ Aside0 (KeepBut w wr b none))
  case atStart => exact ⟨vals, [], rfl, H', HS, HR, HK⟩
  case round =>
    clear H' HS HR HK
    obtain ⟨va, li, hva, HA, HS, HR, HK⟩ := hrel
    cases gk with
    | zero => exact absurd HA.out (by simp [propL])
    | succ k1 =>
    have hA := HA.out
    rw [propL] at hA
    clear HA
    obtain ⟨q, hq⟩ : ∃ q, scanL va cs 0 0 = q := ⟨_, rfl⟩
    have hqf := scanL_fit va cs 0 0 HF.out (by have := HP.out; show (0 : Int).natAbs < _; omega)
    rw [hq] at hA hqf
    have HQ : Aside0 (scanL va (cs.drop 0) 0 0 = q) := ⟨by rw [List.drop_zero]; exact hq⟩
    have HA := Aside0.mk hA
    have HQF := Aside0.mk hqf
    clear hq hA hqf
    obtain ⟨hc0, hc1, hc2⟩ := HS.out.cells
    have HCC := Aside0.mk (And.intro hc0 (And.intro hc1 hc2))
    clear hc0 hc2
    go_wp2
    clear hc1
    go_loopg [5, 16] cs.length (fun gg v5 v16 wr2 => ∃ (next : Int) (kk : Nat), v5 = .int .i64 next ∧ v16 = .int .i64 kk ∧ kk ≤ cs.length ∧ cs.length - kk ≤ gg ∧ Aside0 (scanL va (cs.drop kk) kk next = q) ∧ wr2 = wr)
    case atStart => exact ⟨0, 0, rfl, rfl, Nat.zero_le _, by omega, HQ, rfl⟩
    case round =>
      clear HQ
      obtain ⟨next, kk, rfl, rfl, hk, hg, HQ, rfl⟩ := hrel
      by_cases hlt : kk < cs.length
      · have hltz : (kk : Int) < (cs.length : Int) := by omega
        have h0z : (0 : Int) ≤ (kk : Int) := by omega
        obtain ⟨ad, A0, c0, ea, hx, hlen, hC0⟩ := at_L1 HC.out (kk : Int) h0z hltz
        subst ea
        rw [Int.toNat_natCast] at hx
        have hrd : rd_L1 cs (kk : Int) = cs[kk] := by unfold rd_L1; simp [List.getD, hlt]
        have hQ := HQ.out
        rw [List.drop_eq_getElem_cons hlt, scanL, ← hrd] at hQ
        have hfc : fitL vals.length (rd_L1 cs (kk : Int)) = true := by rw [hrd]; exact List.all_eq_true.1 HF.out _ (List.getElem_mem hlt)
        have ew : IntKind.i64.wrap ((kk : Int) + 1) = ((kk + 1 : Nat) : Int) := IntWalk.i64_in _ (by omega)
        clear hrd HQ
        generalize rd_L1 cs (kk : Int) = l at hx hlen hC0 hQ hfc
        have hx2 := (HS.out.base.cell (World.block_lt_of_cell? w0 _ hx)).trans hx
        have hcall := unit_any g va _ cv A0 c0 l wr HCC.out.2.2 HS.out.reads (Kd.C_below hC0 HS.out.base) (by rw [hva]; exact hfc) (by rw [hva]; exact HN.out)
        clear hx hlen hC0 hfc
        obtain ⟨u, hu⟩ : ∃ u, unitL va l 0 = u := ⟨_, rfl⟩
        rw [hu] at hQ hcall
        clear hu
        obtain ⟨one, fl⟩ := u
        simp only at hQ hcall
        cases fl with
        | true =>
          rw [if_pos rfl] at hQ
          have hA := HA.out
          subst hQ
          simp only [Option.some.injEq, Prod.mk.injEq] at hA
          obtain ⟨rfl, rfl, rfl⟩ := hA
          clear HA
          go_wp2_with (go_at_call 106; refine hcall.mono ?_; rintro e w' ⟨rfl, rfl⟩)
          go_ret2
          exact ⟨_, rfl, Kd.R_mono HR.out (fun _ _ => trivial), HS.out, hva, HK.out, HS.out.base⟩
        | false =>
          rw [if_neg Bool.false_ne_true] at hQ
          have HQ2 := Aside0.mk hQ
          clear hQ
          by_cases h0 : next = 0
          · subst h0
            rw [if_pos rfl] at HQ2
            go_wp2_with (go_at_call 106; refine hcall.mono ?_; rintro e w' ⟨rfl, rfl⟩)
            go_roundg (gk - 1)
            case measure => omega
            case rel => exact ⟨one, kk + 1, rfl, rfl, by omega, by omega, HQ2, rfl⟩
          · rw [if_neg h0] at HQ2
            have h02 : (next == 0) = false := beq_eq_false_iff_ne.mpr h0
            go_wp2_with (go_at_call 106; refine hcall.mono ?_; rintro e w' ⟨rfl, rfl⟩)
            go_roundg (gk - 1)
            case measure => omega
            case rel => exact ⟨next, kk + 1, rfl, rfl, by omega, by omega, HQ2, rfl⟩
      · have hQ := HQ.out
        obtain rfl : kk = cs.length := by omega
        rw [List.drop_length, scanL] at hQ
        subst hQ
        have hA := HA.out
        simp only at hA
        have hqf := HQF.out
        simp only at hqf
        clear HQF HA HQ
        by_cases h0 : next = 0
        · subst h0
          rw [if_pos rfl] at hA
          simp only [Option.some.injEq, Prod.mk.injEq] at hA
          obtain ⟨rfl, rfl, rfl⟩ := hA
          go_wp2
          go_ret2
          exact ⟨_, rfl, Kd.R_mono HR.out (fun _ _ => trivial), HS.out, hva, HK.out, HS.out.base⟩
        · rw [if_neg h0] at hA
          have h02 : (next == 0) = false := beq_eq_false_iff_ne.mpr h0
          by_cases hl : li.length < 17592186044416
          · rw [if_pos hl] at hA
            have H' := Aside0.mk hA
            have LM := Aside0.mk hl
            obtain ⟨hcx, hfx⟩ := Kd.R_celln 0 HS.out.own (next.natAbs : Int) (by omega) (by rw [hva]; omega)
            rw [Int.toNat_natCast] at hcx hfx
            have hcall := set_any g b va.length cv next _ wr HCC.out.2.2 (by rw [hva]; exact hqf) (by rw [hva]; exact HN.out) hcx hfx
            have HS2 := Aside0.mk (HS.out.set next)
            have HR2 := Aside0.mk (Kd.R_far (p := ⟨b, next.natAbs, none⟩) HR.out (fun k_ hk_ => by have := HLT.out.2; show k_ ≠ b; omega) (.int .i64 (if next < 0 then -1 else 1)))
            have HK2 := Aside0.mk (KeepBut.set_ HK.out next.natAbs (.int .i64 (if next < 0 then -1 else 1)))
            clear hcx hfx hl hA HS HR HK HCC
            generalize wr.setCell ⟨b, next.natAbs, none⟩ (.int .i64 (if next < 0 then -1 else 1)) = wr2 at hcall HS2 HR2 HK2
            go_wp2_with (first
              | (go_at_call 70; refine hcall.mono ?_; rintro e w' ⟨rfl, hq⟩; have hq2 := hq.symm; clear hcall hq; subst hq2)
              | ((with_reducible refine gate_builtin (b := .append) (xs := #[.tmp 40, .tmp 42]) rfl ?_); at_builtin; refine Kd.R_append (Kd.int .i64) (w0 := wr2) w.heap.size rfl (.tmp 40) (.tmp 42) 37 3 (.int .i64 0) 8 rfl Try.underlying37 info3 rfl (by decide) (by omega) u4 li next [.int .i64 next] (fun k_ => w.heap.size ≤ k_) (fun _ => False) rfl rfl ?aP (fun _ hk => hk.elim) ?aF ?aO ?aB ?aS ?aL ?_; (case aP => exact rfl); (case aF => exact fun k_ hk_ => Nat.le_trans HK2.out.1 hk_); (case aO => exact HR2.out); (case aB => exact Below.refl _ _); (case aS => exact HK2.out.1); (case aL => have := LM.out; omega); intro v1 w1 ho hb hg2 hat; have n0_ := Aside0.mk ho; have n1_ := Aside0.mk (HS2.out.grown hg2 (HS2.out.base.trans (hb.mono (by have := HS2.out.old; have := HLT.out.1; omega))) (fun e_ => by have := HR2.out.1 _ e_; have := HLT.out.1; omega) (fun e_ => by have := HR2.out.1 _ e_; have := HLT.out.2; omega)); have n2_ := Aside0.mk (show KeepBut w w1 b none from ⟨Nat.le_trans HK2.out.1 hg2.size, fun i_ hi_ hne_ hr_ => (hb.block i_ hi_).trans (HK2.out.2 i_ hi_ hne_ hr_)⟩); clear HS2 HR2 HK2 hb hg2 hat ho))
            go_roundg k1
            case measure => omega
            case rel => exact ⟨setL va next, li ++ [next], by rw [setL_length]; exact hva, H', n1_, n0_, n2_⟩
          · rw [if_neg hl] at hA
            cases hA

/-! ### impl_newState: function 67 -/
def newState_T : Bool × List (List Nat × List Nat) := (true, [([], []), ([], []), ([1], [1]), ([2], [2]), ([3, 3], [3]), ([0, 4], [0, 4]), ([5], [5]), ([6, 0, 1, 2, 3, 4, 5, 6], [6])])
def newState_B : List Nat := [0, 0, 2, 6, 14, 31, 63, 127]
theorem newState_tab : rtab .any (opsOf Try.f67 1) = newState_T := by kernel_rfl
theorem newState_bits : waitsOk newState_T.2 newState_B = true := by kernel_rfl
set_option maxHeartbeats 4000000 in
set_option maxRecDepth 100000 in
theorem newState_any (vars : Int) (A : Option Addr) (n c : Nat) (w : World) (h0 : 0 ≤ vars) (h1 : vars ≤ 4000) :
    Calls Try.prog 67 #[.agg #[.int .i64 vars, .slice A n c]] w fun e W' => ∃ g b cv, e = .returned (.pointer (some ⟨g, 0, none⟩)) ∧ ST w W' g b vars A n c cv (List.replicate (vars + 1).toNat 0) := by
  obtain ⟨vs, hvs⟩ : ∃ vs, List.replicate (vars + 1).toNat (0 : Int) = vs := ⟨_, rfl⟩
  rw [hvs]
  have HV := Aside0.mk hvs
  have HVL := Aside0.mk (show vs.length = (vars + 1).toNat by rw [← hvs]; simp)
  clear hvs
  have hu_Cnf := Try.underlying30
  have hu_state := Try.underlying112
  have ew : IntKind.i64.wrap (vars + 1) = vars + 1 := IntWalk.i64_in _ (by omega)
  go_enter Try.func67, Try.ntmps67
  have hW : (w.alloc (.cells #[.int .i64 vars, .slice A n c] 30)).heap[w.heap.size]? = some (.cells #[.int .i64 vars, .slice A n c] 30 (0, 0)) := by
    show (w.heap.push _)[w.heap.size]? = _
    simp
  obtain ⟨W1, gb, hW1, hgb, BX, HB1⟩ : ∃ W1 gb, w.alloc (.cells #[.int .i64 vars, .slice A n c] 30) = W1 ∧ w.heap.size = gb ∧ Aside0 (W1.heap[gb]? = some (.cells #[.int .i64 vars, .slice A n c] 30 (0, 0))) ∧ Aside0 (Below w.heap.size w W1) :=
    ⟨_, _, rfl, rfl, ⟨hW⟩, ⟨(Below.refl _ _).alloc (Nat.le_refl _) _⟩⟩
  have HW1 := Aside0.mk hW1
  have HGB := Aside0.mk hgb
  clear hW hW1 hgb
  go_upto_region 1 with fail
  rw [HW1.out, HGB.out]
  clear HW1
  refine start_ (n := 8) (S := fun w' => w'.cell? ⟨gb, 0, none⟩ = some (.int .i64 vars) ∧ w'.cell? ⟨gb, 1, none⟩ = some (.slice A n c)) (ds := []) #[false, false, false, false, false, false, false, false] (by kernel_rfl) rfl rfl ⟨(blk_cell BX.out 0).trans rfl, (blk_cell BX.out 1).trans rfl⟩ (fun hHeld => ?_)
  refine with_tabW newState_tab newState_bits (fun HT_ HW_ => ?_)
  replace BX : Aside0 (W1.drew.heap[gb]? = some (.cells #[.int .i64 vars, .slice A n c] 30 (0, 0))) := ⟨BX.out⟩
  replace HB1 : Aside0 (Below w.heap.size w W1.drew) := ⟨HB1.out.drew⟩
  generalize W1.drew = w20 at BX HB1 hHeld ⊢
  refine pure_ (i := 1) (N := some 4) (v := ?_) (a' := ?_) #[false, true, false, false, false, false, false, false] rfl rfl (any_of HT_.out (by kernel_rfl)) (fun _ _ _ h => h) (Or.inl ⟨by rfl, ?_⟩) ?_ ?_
  rotate_left
  · intro w'
    go_simp
    with_reducible rfl
  rotate_left
  · simp only [Act.put, List.setIfInBounds_toArray, List.set_cons_zero, List.set_cons_succ, i64_w, i32_w]
    rfl
  refine take_ (i := 0) (N := some 3) (v := ?_) (a' := ?_) #[true, true, false, false, false, false, false, false] rfl rfl (take_ofW HT_.out HW_.out (by kernel_rfl)) (fun _ _ _ h => h) (Or.inl ⟨by rfl, ?_⟩) hHeld ?_ ?_
  rotate_left
  · rintro w' ⟨s0, s1⟩
    go_simp
    with_reducible rfl
  rotate_left
  · simp only [Act.put, List.setIfInBounds_toArray, List.set_cons_zero, List.set_cons_succ, i64_w, i32_w]
    rfl
  refine take_ (i := 2) (N := some 5) (v := ?_) (a' := ?_) #[true, true, true, false, false, false, false, false] rfl rfl (take_ofW HT_.out HW_.out (by kernel_rfl)) (fun _ _ _ h => h) (Or.inl ⟨by rfl, ?_⟩) hHeld ?_ ?_
  rotate_left
  · rintro w' ⟨s0, s1⟩
    go_simp
    with_reducible rfl
  rotate_left
  · simp only [Act.put, List.setIfInBounds_toArray, List.set_cons_zero, List.set_cons_succ, i64_w, i32_w]
    rfl
  refine pure_ (i := 3) (N := some 6) (v := ?_) (a' := ?_) #[true, true, true, true, false, false, false, false] rfl rfl (any_of HT_.out (by kernel_rfl)) (fun _ _ _ h => h) (Or.inl ⟨by rfl, ?_⟩) ?_ ?_
  rotate_left
  · intro w'
    go_simp
    with_reducible rfl
  rotate_left
  · simp only [Act.put, List.setIfInBounds_toArray, List.set_cons_zero, List.set_cons_succ, i64_w, i32_w]
    rfl
  refine one_ (i := 4) (N := some 7) #[true, true, true, true, true, false, false, false] rfl rfl (one_of HT_.out (by kernel_rfl)) (by decide) (fun K hK => ?_)
  refine Kd.R_make_step (Kd.int .i64) (w0 := w) w.heap.size 3 (by rfl) (N := 7) rfl 37 (.tmp 6) (.tmp 6) rfl (vars + 1) (by first | rfl | (go_simp; done) | (go_simp; rfl)) (by first | rfl | (go_simp; done) | (go_simp; rfl)) Try.underlying37 (.int .i64 0) 8 info3 rfl (by decide) (by decide) (0 : Int) (ok := fun k => k ≠ gb) (okp := fun _ => False) rfl (fun _ hk => hk.elim) (by have := blk_lt BX.out; omega) (by omega) (by omega) HB1.out (by exact HB1.out.size) ?_
  intro v1 w21 ho hb hg hnew
  obtain ⟨b, cap, ev, hb0, hb1, cells, hcells⟩ := Kd.R_form ho (by simp; omega)
  subst ev
  have n0_ := Aside0.mk (blk_grown BX.out hg (by simp))
  have n1_ := Aside0.mk hb
  have n2_ := Aside0.mk ho
  clear BX HB1 hcells hb hg
  have BX := n0_
  have HB1 := n1_
  clear n0_ n1_ ho hnew
  rw [HV.out] at n2_
  refine hK.out _ _ ⟨(blk_cell BX.out 0).trans rfl, (blk_cell BX.out 1).trans rfl⟩ (fun hHeld => ?_)
  clear hK K
  refine norm_ (a' := ?_) ?_ ?_
  rotate_left
  · show Act.put _ (some 7) _ = _
    simp only [Act.put, List.setIfInBounds_toArray, List.set_cons_zero, List.set_cons_succ, i64_w, i32_w]
    rfl
  refine pure_ (i := 5) (N := some 8) (v := ?_) (a' := ?_) #[true, true, true, true, true, true, false, false] rfl rfl (any_of HT_.out (by kernel_rfl)) (fun _ _ _ h => h) (Or.inl ⟨by rfl, ?_⟩) ?_ ?_
  rotate_left
  · intro w'
    go_simp
    with_reducible rfl
  rotate_left
  · simp only [Act.put, List.setIfInBounds_toArray, List.set_cons_zero, List.set_cons_succ, i64_w, i32_w]
    rfl
  refine one_ (i := 6) (N := some 9) #[true, true, true, true, true, true, true, false] rfl rfl (one_of HT_.out (by kernel_rfl)) (by decide) (fun K hK => ?_)
  refine box_step (by rfl) (N := 9) rfl (cs := #[.int .i64 vars, .slice A n c, .slice (some ⟨b, 0, none⟩) (vars + 1).toNat cap]) (t := 112) ?hr9 ?_
  case hr9 => first | (go_simp; done) | (go_simp; rfl)
  intro g hg w22 hbox hb2
  have n0_ := Aside0.mk (blk_below BX.out hb2)
  have n1_ := Aside0.mk (HB1.out.trans (hb2.mono HB1.out.size))
  have n3_ := Aside0.mk (Kd.R_below n2_.out hb2)
  have n4_ := Aside0.mk (show w22.heap[g]? = some (.cells #[.int .i64 vars, .slice A n c, .slice (some ⟨b, 0, none⟩) vs.length cap] 112 (0, 0)) by rw [HVL.out]; exact hbox)
  have n5_ := Aside0.mk (show w.heap.size ≤ g by rw [hg]; exact HB1.out.size)
  clear BX HB1 n2_ hbox hb2 hg
  refine hK.out _ _ ⟨(blk_cell n0_.out 0).trans rfl, (blk_cell n0_.out 1).trans rfl⟩ (fun hHeld => ?_)
  clear hK K
  refine norm_ (a' := ?_) ?_ ?_
  rotate_left
  · show Act.put _ (some 9) _ = _
    simp only [Act.put, List.setIfInBounds_toArray, List.set_cons_zero, List.set_cons_succ, i64_w, i32_w]
    rfl
  refine pure_ (i := 7) (N := some 2) (v := ?_) (a' := ?_) #[true, true, true, true, true, true, true, true] rfl rfl (any_of HT_.out (by kernel_rfl)) (fun _ _ _ h => h) (Or.inl ⟨by rfl, ?_⟩) ?_ ?_
  rotate_left
  · intro w'
    go_simp
    with_reducible rfl
  rotate_left
  · simp only [Act.put, List.setIfInBounds_toArray, List.set_cons_zero, List.set_cons_succ, i64_w, i32_w]
    rfl
  refine done_ (done_of HT_.out (by kernel_rfl)) ?_
  go_wp2
  go_ret
  exact ⟨g, b, cap, rfl, n1_.out, n5_.out, n4_.out, Kd.R_mono n3_.out (fun _ _ => trivial)⟩

/-! ### impl_isRup: function 62 -/
/-- the values behind the literals that are made false, or none if one of them is true -/
def assumeL : List Int → List Int → Option (List Int)
  | vals, [] => some vals
  | vals, x :: r => if isL vals x = true then none else assumeL (setL vals (-x)) r
theorem assumeL_length : ∀ (l vals v2 : List Int), assumeL vals l = some v2 → v2.length = vals.length
  | [], vals, v2, h => by rw [assumeL] at h; rw [← Option.some.inj h]
  | x :: r, vals, v2, h => by
    rw [assumeL] at h
    split at h
    · cases h
    · rw [assumeL_length r _ v2 h, setL_length]
def impl_isRup.f (k : Nat) (a0_0 : Int) (l0_1 : List (List Int)) (l1 : List Int) : Option Bool :=
  if decide (0 ≤ a0_0) && decide (a0_0 ≤ 4000) && fitL (a0_0 + 1).toNat l1 && (l0_1.all fun c => fitL (a0_0 + 1).toNat c) then
    (match assumeL (List.replicate (a0_0 + 1).toNat 0) l1 with
      | none => some true
      | some vals => (propL l0_1 k vals []).bind fun t => some (decide (0 ≤ t.2.2)))
  else none
theorem impl_isRup.mono : ∀ a0 a1 a2 k, LeO (impl_isRup.f k a0 a1 a2) (impl_isRup.f (k + 1) a0 a1 a2) := by
  intro a0 a1 a2 k r h
  unfold impl_isRup.f at h ⊢
  by_cases hf : (decide (0 ≤ a0) && decide (a0 ≤ 4000) && fitL (a0 + 1).toNat a2 && (a1.all fun c => fitL (a0 + 1).toNat c)) = true
  · rw [if_pos hf] at h ⊢
    generalize assumeL (List.replicate (a0 + 1).toNat 0) a2 = q at h ⊢
    cases q with
    | none => exact h
    | some v =>
      simp only [Option.bind_eq_some_iff] at h ⊢
      obtain ⟨t, ht, h⟩ := h
      exact ⟨t, propL_mono a1 k v [] t ht, h⟩
  · rw [if_neg hf] at h
    cases h
set_option maxHeartbeats 8000000 in
set_option maxRecDepth 100000 in
theorem impl_isRup.calls (k : Nat) (a0_0 : Int) (A0_1 : Option Addr) (c0_1 : Nat) (l0_1 : List (List Int)) (A1 : Option Addr) (c1 : Nat) (l1 : List Int) (r : Bool) (w : World) (hr0_1 : Kd.C (Kd.slice 3 (Kd.int .i64)) w A0_1 l0_1.length l0_1) (hc0_1 : l0_1.length ≤ c0_1) (hr1 : Kd.C (Kd.int .i64) w A1 l1.length l1) (hc1 : l1.length ≤ c1) (h : impl_isRup.f k a0_0 l0_1 l1 = some r) :
    Calls Try.prog 62 #[.agg #[.int .i64 a0_0, .slice A0_1 l0_1.length c0_1], .slice A1 l1.length c1] w fun e w' => e = .returned (.bool r) ∧ Below w.heap.size w w' := by
  unfold impl_isRup.f at h
  by_cases hf : (decide (0 ≤ a0_0) && decide (a0_0 ≤ 4000) && fitL (a0_0 + 1).toNat l1 && (l0_1.all fun c => fitL (a0_0 + 1).toNat c)) = true
  · rw [if_pos hf] at h
    simp only [Bool.and_eq_true, decide_eq_true_eq] at hf
    obtain ⟨⟨⟨h0, h1⟩, hf1⟩, hf2⟩ := hf
    have hu_Cnf := Try.underlying30
    have hB1 : Below w.heap.size w (w.alloc (.cells #[.int .i64 a0_0, .slice A0_1 l0_1.length c0_1] 30)) := (Below.refl _ _).alloc (Nat.le_refl _) _
    have hnew := newState_any a0_0 A0_1 l0_1.length c0_1 (w.alloc (.cells #[.int .i64 a0_0, .slice A0_1 l0_1.length c0_1] 30)) h0 h1
    have hW : (w.alloc (.cells #[.int .i64 a0_0, .slice A0_1 l0_1.length c0_1] 30)).heap[w.heap.size]? = some (.cells #[.int .i64 a0_0, .slice A0_1 l0_1.length c0_1] 30 (0, 0)) := by
      show (w.heap.push _)[w.heap.size]? = _
      simp
    obtain ⟨vs, hvs⟩ : ∃ vs, List.replicate (a0_0 + 1).toNat (0 : Int) = vs := ⟨_, rfl⟩
    have hvl : vs.length = (a0_0 + 1).toNat := by rw [← hvs]; simp
    rw [hvs] at h hnew
    rw [← hvl] at hf1 hf2
    have hn : vs.length ≤ 4096 := by omega
    have hp : 0 < vs.length := by omega
    clear hvs hvl
    have HC0 := Kd.C_below hr0_1 hB1
    have HC1 := Aside0.mk (Kd.C_below hr1 hB1)
    have hmax : l1.length ≤ 9223372036854775807 := Kd.C_max hr1
    have HCX := Aside0.mk HC0
    clear hr0_1 hr1 HC0
    obtain ⟨W1, hW1, BX, HB1⟩ : ∃ W1, w.alloc (.cells #[.int .i64 a0_0, .slice A0_1 l0_1.length c0_1] 30) = W1 ∧ W1.heap[w.heap.size]? = some (.cells #[.int .i64 a0_0, .slice A0_1 l0_1.length c0_1] 30 (0, 0)) ∧ Below w.heap.size w W1 := ⟨_, rfl, hW, hB1⟩
    rw [hW1] at hnew HC1 HCX
    have HW1 := Aside0.mk hW1
    have HB1' := Aside0.mk HB1
    have hx0 : W1.cell? ⟨w.heap.size, 0, none⟩ = some (.int .i64 a0_0) := (blk_cell BX 0).trans rfl
    have hx1 : W1.cell? ⟨w.heap.size, 1, none⟩ = some (.slice A0_1 l0_1.length c0_1) := (blk_cell BX 1).trans rfl
    have H' : Aside0 ((match assumeL vs (l1.drop 0) with
      | none => some true
      | some vals => (propL l0_1 k vals []).bind fun t => some (decide (0 ≤ t.2.2))) = some r) := ⟨by rw [List.drop_zero]; exact h⟩
    have HF1 := Aside0.mk hf1
    have HF2 := Aside0.mk hf2
    have HN := Aside0.mk hn
    have HP := Aside0.mk hp
    clear h hW hB1 hW1 BX HB1 hf1 hf2 hn hp
    go_enter Try.func62, Try.ntmps62
    go_upto_region 1 with fail
    rw [HW1.out]
    go_wp2_with (go_at_call 67; refine hnew.mono ?_; rintro e w2 ⟨g, b, cv, rfl, hS⟩)
    clear hx0 hx1 hnew HW1
    have HS := Aside0.mk hS
    have HO := Aside0.mk (And.intro hS.old hS.bold)
    clear hS
    go_loopg [14] l1.length (fun gg v14 wr => ∃ (kk : Nat) (va : List Int), v14 = .int .i64 kk ∧ kk ≤ l1.length ∧ l1.length - kk ≤ gg ∧ va.length = vs.length ∧ Aside0 ((match assumeL va (l1.drop kk) with
      | none => some true
      | some vals => (propL l0_1 k vals []).bind fun t => some (decide (0 ≤ t.2.2))) = some r) ∧ Aside0 (ST W1 wr g b a0_0 A0_1 l0_1.length c0_1 cv va))
    case atStart => exact ⟨0, vs, rfl, Nat.zero_le _, by omega, rfl, H', HS⟩
    case round =>
      clear H' HS
      obtain ⟨kk, va, rfl, hk, hg, hva, HA, HS⟩ := hrel
      by_cases hlt : kk < l1.length
      · have hltz : (kk : Int) < (l1.length : Int) := by omega
        have h0z : (0 : Int) ≤ (kk : Int) := by omega
        obtain ⟨ad, ea, hx⟩ := Kd.at_int HC1.out (kk : Int) h0z hltz
        subst ea
        rw [Int.toNat_natCast] at hx
        have hrd : rd l1 (kk : Int) = l1[kk] := by unfold rd; simp [List.getD, hlt]
        have hA := HA.out
        rw [List.drop_eq_getElem_cons hlt, assumeL, ← hrd] at hA
        have hfx : (rd l1 (kk : Int)).natAbs < vs.length := by rw [hrd]; exact fitL_at HF1.out kk hlt
        have ew : IntKind.i64.wrap ((kk : Int) + 1) = ((kk + 1 : Nat) : Int) := IntWalk.i64_in _ (by omega)
        have hx2 := (HS.out.base.cell (World.block_lt_of_cell? W1 _ hx)).trans hx
        clear hrd HA hx
        generalize rd l1 (kk : Int) = x at hx2 hA hfx
        have ex : IntKind.i64.wrap (-x) = -x := IntWalk.i64_in _ (by have := HN.out; omega)
        have hcall := is_any g va _ cv x wr HS.out.cells.2.2 HS.out.reads (by omega) (by have := HN.out; omega)
        cases ha : isL va x with
        | true =>
          rw [ha, if_pos rfl] at hA
          rw [ha] at hcall
          simp only [Option.some.injEq] at hA
          subst hA
          clear ha hfx
          go_wp2_with (go_at_call 69; refine hcall.mono ?_; rintro e w' ⟨rfl, rfl⟩)
          go_ret
          exact ⟨rfl, HB1'.out.trans (HS.out.base.mono HB1'.out.size)⟩
        | false =>
          rw [ha, if_neg Bool.false_ne_true] at hA
          rw [ha] at hcall
          have H' := Aside0.mk hA
          clear ha hA
          obtain ⟨hcx, hfx2⟩ := Kd.R_celln 0 HS.out.own (x.natAbs : Int) (by omega) (by omega)
          rw [Int.toNat_natCast] at hcx hfx2
          have hxn : (-x).natAbs = x.natAbs := by omega
          have hset := set_any g b va.length cv (-x) _ wr HS.out.cells.2.2 (by omega) (by have := HN.out; omega) (by rw [hxn]; exact hcx) (by rw [hxn]; exact hfx2)
          have HS2 := Aside0.mk (HS.out.set (-x))
          clear hcx hfx2 HS hfx hxn
          generalize wr.setCell ⟨b, (-x).natAbs, none⟩ (.int .i64 (if -x < 0 then -1 else 1)) = wr2 at hset HS2
          go_wp2_with (first
            | (go_at_call 69; refine hcall.mono ?_; rintro e w' ⟨rfl, hq⟩; have hq2 := hq.symm; clear hcall hq; subst hq2)
            | (go_at_call 70; refine hset.mono ?_; rintro e w' ⟨rfl, hq⟩; have hq2 := hq.symm; clear hset hq; subst hq2))
          go_roundg (gk - 1)
          case measure => omega
          case rel => exact ⟨kk + 1, setL va (-x), rfl, by omega, by omega, by rw [setL_length]; exact hva, H', HS2⟩
      · have hA := HA.out
        obtain rfl : kk = l1.length := by omega
        rw [List.drop_length, assumeL] at hA
        simp only [Option.bind_eq_some_iff, Option.some.injEq] at hA
        obtain ⟨⟨v2, li, at_⟩, hpr, rfl⟩ := hA
        have hprop := propagate_any k g b a0_0 A0_1 c0_1 cv l0_1 va v2 li at_ W1 wr HS.out HCX.out (by rw [hva]; exact HF2.out) (by rw [hva]; exact HN.out) (by rw [hva]; exact HP.out) hpr
        clear HA hpr
        go_wp2_with (go_at_call 71; refine hprop.mono ?_; rintro e w3 ⟨v, rfl, -, -, -, -, hb3⟩)
        go_ret
        exact ⟨rfl, HB1'.out.trans (hb3.mono HB1'.out.size)⟩
  · rw [if_neg hf] at h
    cases h

/-! ### slices_Index_int_int: function 112 -/
/-- the first place of a number, or -1 -/
def idxL (x : Int) : List Int → Nat → Int
  | [], _ => -1
  | y :: r, i => if x = y then (i : Int) else idxL x r (i + 1)
set_option maxHeartbeats 4000000 in
theorem index_any (x : Int) (A : Option Addr) (c : Nat) (l : List Int) (W : World) (hl : Kd.C (Kd.int .i64) W A l.length l) :
    Calls Try.prog 112 #[.slice A l.length c, .int .i64 x] W fun e W' => e = .returned (.int .i64 (idxL x l 0)) ∧ W' = W := by
  have HL := Aside0.mk hl
  have hmax : l.length ≤ 9223372036854775807 := Kd.C_max hl
  clear hl
  obtain ⟨r, hr⟩ : ∃ r, idxL x l 0 = r := ⟨_, rfl⟩
  rw [hr]
  have H' : Aside0 (idxL x (l.drop 0) 0 = r) := ⟨by rw [List.drop_zero]; exact hr⟩
  clear hr
  go_enter Try.func112, Try.ntmps112
  go_wp2
  go_loopg [8] l.length (fun gg v8 wr => ∃ (kk : Nat), v8 = .int .i64 kk ∧ kk ≤ l.length ∧ l.length - kk ≤ gg ∧ Aside0 (idxL x (l.drop kk) kk = r) ∧ wr = W)
  case atStart => exact ⟨0, rfl, Nat.zero_le _, by omega, H', rfl⟩
  case round =>
    clear H'
    obtain ⟨kk, rfl, hk, hg, HA, rfl⟩ := hrel
    by_cases hlt : kk < l.length
    · have hltz : (kk : Int) < (l.length : Int) := by omega
      have h0z : (0 : Int) ≤ (kk : Int) := by omega
      obtain ⟨ad, ea, hx⟩ := Kd.at_int HL.out (kk : Int) h0z hltz
      subst ea
      rw [Int.toNat_natCast] at hx
      have hrd : rd l (kk : Int) = l[kk] := by unfold rd; simp [List.getD, hlt]
      have hA := HA.out
      rw [List.drop_eq_getElem_cons hlt, idxL, ← hrd] at hA
      have ew : IntKind.i64.wrap ((kk : Int) + 1) = ((kk + 1 : Nat) : Int) := IntWalk.i64_in _ (by omega)
      clear hrd HA
      generalize rd l (kk : Int) = y at hx hA
      by_cases h0 : x = y
      · rw [if_pos h0] at hA
        subst h0
        subst hA
        go_wp2
        go_ret
        exact ⟨rfl, rfl⟩
      · rw [if_neg h0] at hA
        have h02 : (x == y) = false := beq_eq_false_iff_ne.mpr h0
        have HA2 := Aside0.mk hA
        clear hA
        go_wp2
        go_roundg (gk - 1)
        case measure => omega
        case rel => exact ⟨kk + 1, rfl, by omega, by omega, HA2, rfl⟩
    · have hA := HA.out
      obtain rfl : kk = l.length := by omega
      rw [List.drop_length, idxL] at hA
      subst hA
      go_wp2
      go_ret
      exact ⟨rfl, rfl⟩
theorem idxL_range (x : Int) : ∀ (l : List Int) (i : Nat), -1 ≤ idxL x l i ∧ idxL x l i < ((i + l.length : Nat) : Int)
  | [], i => by unfold idxL; exact ⟨by omega, by omega⟩
  | y :: r, i => by
    have := idxL_range x r (i + 1)
    rw [List.length_cons]
    unfold idxL
    split <;> omega
/-- the first variable without a value, or 0 -/
def openL (vals : List Int) : Int := idxL 0 (vals.drop 1) 0 + 1

/-! ### slices_Contains_int_int: function 84 -/
set_option maxHeartbeats 800000 in
theorem contains_any (x : Int) (A : Option Addr) (c : Nat) (l : List Int) (W : World) (hl : Kd.C (Kd.int .i64) W A l.length l) :
    Calls Try.prog 84 #[.slice A l.length c, .int .i64 x] W fun e W' => e = .returned (.bool (decide (0 ≤ idxL x l 0))) ∧ W' = W := by
  have hcall := index_any x A c l W hl
  clear hl
  generalize idxL x l 0 = r at hcall ⊢
  go_enter Try.func84, Try.ntmps84
  go_wp2_with (go_at_call 112; refine hcall.mono ?_; rintro e w' ⟨rfl, rfl⟩)
  go_ret
  exact ⟨rfl, rfl⟩

-- NOT PRINTED: function 117 (slices_Grow_int_int)

end Go.Proofs.Ytelfahcjeldliaa.PFnExactRat
