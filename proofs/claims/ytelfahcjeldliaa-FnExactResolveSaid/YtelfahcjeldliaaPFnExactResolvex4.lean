/- WRITTEN BY A PROGRAM OF THIS SESSION (wip/xprint) OVER THE KIT's PRINT, FOR THIS CLAIM: for Go functions that the law reaches, one Lean function each and the proof that Go's call comes to its answer. No conditions but those that each theorem names. -/
import Derived.Test.YtelfahcjeldliaaPFnExactResolvex0
import Derived.Test.YtelfahcjeldliaaPFnExactResolvex3
namespace Go.Proofs.Ytelfahcjeldliaa.PFnExactResolve
open Go.RowKit Go.Proofs.YtelfahcjeldliaaW.PrintWords Go.Proofs.YtelfahcjeldliaaW.PrintLast Go.Proofs.YtelfahcjeldliaaW.PrintMore
attribute [local go_sem] max2_int min2_int max_two min_two max_three min_three max_four min_four   -- for this text's walks alone
set_option linter.unusedVariables false
set_option linter.unusedSimpArgs false

/-! ### impl_isClause: function 61 -/
/-- a literal of so many variables -/
def litB (x vars : Int) : Bool := decide (x ≠ 0) && (decide (wrap64 (-vars) ≤ x) && decide (x ≤ vars))
/-- a clause of so many variables -/
def clauseB (c : List Int) (vars : Int) : Bool := decide (c.length ≤ 12) && !(c.any fun x => !(litB x vars))
theorem lit_is (x vars : Int) : impl_isLiteral.f x vars = some (litB x vars) := by
  unfold impl_isLiteral.f impl_within.f litB
  by_cases h : x = 0
  · simp [h]
  · by_cases h2 : wrap64 (-vars) ≤ x <;> simp [h, h2]
set_option maxHeartbeats 4000000 in
set_option maxRecDepth 100000 in
theorem isClause_fn (x vars : Int) (B : Nat) (W : World) (hB : W.cell? ⟨B, 0, none⟩ = some (.int .i64 vars)) :
    Calls Try.prog 104 #[.int .i64 x, .pointer (some ⟨B, 0, none⟩)] W fun e W' => e = .returned (.bool (!(litB x vars))) ∧ Below W.heap.size W W' := by
  have hcall := fun V => impl_isLiteral.calls x vars _ V (lit_is x vars)
  generalize litB x vars = b at hcall ⊢
  go_enter Try.func104, Try.ntmps104
  go_wp2_with (go_at_call 68; refine (hcall _).mono ?_; rintro e w' ⟨rfl, hd⟩)
  go_ret
  exact ⟨rfl, hd.below⟩
def impl_isClause.f (l0 : List Int) (a1 : Int) : Option Bool := some (clauseB l0 a1)
set_option maxHeartbeats 4000000 in
set_option maxRecDepth 100000 in
theorem impl_isClause.calls (A0 : Option Addr) (c0 : Nat) (l0 : List Int) (a1 : Int) (r : Bool) (w : World) (hr0 : Kd.C (Kd.int .i64) w A0 l0.length l0) (hc0 : l0.length ≤ c0) (h : impl_isClause.f l0 a1 = some r) :
    Calls Try.prog 61 #[.slice A0 l0.length c0, .int .i64 a1] w fun e w' => e = .returned (.bool r) ∧ Below w.heap.size w w' := by
  obtain rfl : clauseB l0 a1 = r := Option.some.inj h
  clear h
  unfold clauseB
  have hbox : (w.alloc (.cells #[.int .i64 a1] 3)).cell? ⟨w.heap.size, 0, none⟩ = some (.int .i64 a1) := by simp
  have hB0 : Below w.heap.size w (w.alloc (.cells #[.int .i64 a1] 3)) := (Below.refl _ _).alloc (Nat.le_refl _) _
  have hcon := anyIntL (fun x => !(litB x a1)) 104 #[.pointer (some ⟨w.heap.size, 0, none⟩)] (enters_of Try.func104 (by kernel_rfl) rfl) A0 l0 c0 (w.alloc (.cells #[.int .i64 a1] 3)) (Kd.C_below hr0 hB0)
    (fun x W hb => isClause_fn _ _ _ _ ((hb.cell (p := ⟨w.heap.size, 0, none⟩) (by simp)).trans hbox))
  generalize (l0.any fun x => !(litB x a1)) = b at hcon ⊢
  clear hbox hr0
  by_cases hle : l0.length ≤ 12
  · rw [decide_eq_true hle, Bool.true_and]
    have hle2 : decide (l0.length ≤ 12) = true := decide_eq_true hle
    go_enter Try.func61, Try.ntmps61
    go_wp2_with (go_at_call 103; refine hcon.mono ?_; rintro e w' ⟨rfl, hb⟩)
    go_ret
    exact ⟨rfl, hB0.trans (hb.mono hB0.size)⟩
  · rw [decide_eq_false hle, Bool.false_and]
    have hle2 : decide (l0.length ≤ 12) = false := decide_eq_false hle
    have hle3 : 12 < l0.length := by omega
    clear hcon
    go_enter Try.func61, Try.ntmps61
    go_wp2
    go_ret
    exact ⟨rfl, hB0⟩

/-! ### slices_Index_int_int: function 112 -/
/-- the first place of a number, or -1 -/
def idxL (x : Int) : List Int → Nat → Int
  | [], _ => -1
  | y :: r, i => if x = y then (i : Int) else idxL x r (i + 1)
set_option maxHeartbeats 4000000 in
theorem index_any (x : Int) (A : Option Addr) (c : Nat) (l : List Int) (W : World) (hl : Kd.C (Kd.int .i64) W A l.length l) :
    Calls Try.prog 112 #[.slice A l.length c, .int .i64 x] W fun e W' => e = .returned (.int .i64 (idxL x l 0)) ∧ W' = W := by
  have HL := Aside0.mk hl
  have hmax : l.length ≤ 9223372036854775807 := Kd.C_max hl
  clear hl
  obtain ⟨r, hr⟩ : ∃ r, idxL x l 0 = r := ⟨_, rfl⟩
  rw [hr]
  have H' : Aside0 (idxL x (l.drop 0) 0 = r) := ⟨by rw [List.drop_zero]; exact hr⟩
  clear hr
  go_enter Try.func112, Try.ntmps112
  go_wp2
  go_loopg [8] l.length (fun gg v8 wr => ∃ (kk : Nat), v8 = .int .i64 kk ∧ kk ≤ l.length ∧ l.length - kk ≤ gg ∧ Aside0 (idxL x (l.drop kk) kk = r) ∧ wr = W)
  case atStart => exact ⟨0, rfl, Nat.zero_le _, by omega, H', rfl⟩
  case round =>
    clear H'
    obtain ⟨kk, rfl, hk, hg, HA, rfl⟩ := hrel
    by_cases hlt : kk < l.length
    · have hltz : (kk : Int) < (l.length : Int) := by omega
      have h0z : (0 : Int) ≤ (kk : Int) := by omega
      obtain ⟨ad, ea, hx⟩ := Kd.at_int HL.out (kk : Int) h0z hltz
      subst ea
      rw [Int.toNat_natCast] at hx
      have hrd : rd l (kk : Int) = l[kk] := by unfold rd; simp [List.getD, hlt]
      have hA := HA.out
      rw [List.drop_eq_getElem_cons hlt, idxL, ← hrd] at hA
      have ew : IntKind.i64.wrap ((kk : Int) + 1) = ((kk + 1 : Nat) : Int) := IntWalk.i64_in _ (by omega)
      clear hrd HA
      generalize rd l (kk : Int) = y at hx hA
      by_cases h0 : x = y
      · rw [if_pos h0] at hA
        subst h0
        subst hA
        go_wp2
        go_ret
        exact ⟨rfl, rfl⟩
      · rw [if_neg h0] at hA
        have h02 : (x == y) = false := beq_eq_false_iff_ne.mpr h0
        have HA2 := Aside0.mk hA
        clear hA
        go_wp2
        go_roundg (gk - 1)
        case measure => omega
        case rel => exact ⟨kk + 1, rfl, by omega, by omega, HA2, rfl⟩
    · have hA := HA.out
      obtain rfl : kk = l.length := by omega
      rw [List.drop_length, idxL] at hA
      subst hA
      go_wp2
      go_ret
      exact ⟨rfl, rfl⟩
theorem idxL_range (x : Int) : ∀ (l : List Int) (i : Nat), -1 ≤ idxL x l i ∧ idxL x l i < ((i + l.length : Nat) : Int)
  | [], i => by unfold idxL; exact ⟨by omega, by omega⟩
  | y :: r, i => by
    have := idxL_range x r (i + 1)
    rw [List.length_cons]
    unfold idxL
    split <;> omega
/-- the first variable without a value, or 0 -/
def openL (vals : List Int) : Int := idxL 0 (vals.drop 1) 0 + 1

/-! ### slices_Contains_int_int: function 84 -/
set_option maxHeartbeats 800000 in
theorem contains_any (x : Int) (A : Option Addr) (c : Nat) (l : List Int) (W : World) (hl : Kd.C (Kd.int .i64) W A l.length l) :
    Calls Try.prog 84 #[.slice A l.length c, .int .i64 x] W fun e W' => e = .returned (.bool (decide (0 ≤ idxL x l 0))) ∧ W' = W := by
  have hcall := index_any x A c l W hl
  clear hl
  generalize idxL x l 0 = r at hcall ⊢
  go_enter Try.func84, Try.ntmps84
  go_wp2_with (go_at_call 112; refine hcall.mono ?_; rintro e w' ⟨rfl, rfl⟩)
  go_ret
  exact ⟨rfl, rfl⟩

/-! ### impl_rank: function 128 -/
def impl_rank.f (a0 : Int) : Option (Int) := if a0 < 0 then (some (wrap64 (1 - (wrap64 (2 * a0))))) else (some (wrap64 (2 * a0)))
set_option maxHeartbeats 8000000 in
set_option maxRecDepth 100000 in
theorem impl_rank.calls (a0 : Int) (r : Int) (w : World) (h : impl_rank.f a0 = some r) :
    Calls Try.prog 128 #[.int .i64 a0] w fun e w' => e = .returned (.int .i64 r) ∧ Drawn0 w w' := by
  have H : (if a0 < 0 then (some (wrap64 (1 - (wrap64 (2 * a0))))) else (some (wrap64 (2 * a0)))) = some r := h
  clear h
  by_cases c2 : a0 < 0
  · rw [if_pos c2] at H
    have c2b0 : decide (a0 < 0) = true := decide_eq_true c2
    clear c2
    obtain rfl := Option.some.inj H
    go_enter Try.func128, Try.ntmps128
    go_wp2
    go_ret
    exact ⟨by first | rfl | (simp; done) | (simp [*]; done), by repeat (first | exact Drawn0.refl _ | apply Drawn0.step)⟩
  · rw [if_neg c2] at H
    have c2b0 : decide (a0 < 0) = false := decide_eq_false c2
    clear c2
    obtain rfl := Option.some.inj H
    go_enter Try.func128, Try.ntmps128
    go_wp2
    go_ret
    exact ⟨by first | rfl | (simp; done) | (simp [*]; done), by repeat (first | exact Drawn0.refl _ | apply Drawn0.step)⟩

/-! ### impl_compareLiterals: function 115 -/
def impl_compareLiterals.f (a0 : Int) (a1 : Int) : Option (Int) := (impl_rank.f a0).bind fun t153 => ((impl_rank.f a1).bind fun t154 => (some (wrap64 (t153 - t154))))
set_option maxHeartbeats 8000000 in
set_option maxRecDepth 100000 in
theorem impl_compareLiterals.calls (a0 : Int) (a1 : Int) (r : Int) (w : World) (h : impl_compareLiterals.f a0 a1 = some r) :
    Calls Try.prog 115 #[.int .i64 a0, .int .i64 a1] w fun e w' => e = .returned (.int .i64 r) ∧ Drawn0 w w' := by
  have H : ((impl_rank.f a0).bind fun t153 => ((impl_rank.f a1).bind fun t154 => (some (wrap64 (t153 - t154))))) = some r := h
  clear h
  replace H := Option.bind_eq_some_iff.mp H
  obtain ⟨t153, A30, H⟩ := H
  replace H : ((impl_rank.f a1).bind fun t154 => (some (wrap64 (t153 - t154)))) = some r := H
  have A3 := Aside0.mk A30
  clear A30
  replace H := Option.bind_eq_some_iff.mp H
  obtain ⟨t154, A40, H⟩ := H
  replace H : (some (wrap64 (t153 - t154))) = some r := H
  have A4 := Aside0.mk A40
  clear A40
  obtain rfl := Option.some.inj H
  go_enter Try.func115, Try.ntmps115
  go_wp2_with (first | ((with_reducible refine gate_callee (f := 128) rfl ?_); refine goesL_ (some 6) rfl rfl Try.func128 (by kernel_rfl) rfl #[.int .i64 a0] rfl (by (try simp only [List.map_toArray, List.map_cons, List.map_nil]); first | done | rfl | (simp only [List.length_drop, List.length_take]; rfl)) ?_; (with_reducible refine (impl_rank.calls a0 t153 _ A3.out).mono ?_); rintro e w' ⟨rfl, ⟨nd, rfl⟩⟩; refine ⟨_, rfl, ?_⟩) | ((with_reducible refine gate_callee (f := 128) rfl ?_); refine goesL_ (some 8) rfl rfl Try.func128 (by kernel_rfl) rfl #[.int .i64 a1] rfl (by (try simp only [List.map_toArray, List.map_cons, List.map_nil]); first | done | rfl | (simp only [List.length_drop, List.length_take]; rfl)) ?_; (with_reducible refine (impl_rank.calls a1 t154 _ A4.out).mono ?_); rintro e w' ⟨rfl, ⟨nd, rfl⟩⟩; refine ⟨_, rfl, ?_⟩))
  go_ret
  exact ⟨by first | rfl | (simp; done) | (simp [*]; done), by repeat (first | exact Drawn0.refl _ | apply Drawn0.step)⟩

/-! ### impl_inOrder: function 85 -/
/-- numbers laid over a row from a place on -/
def setM : List Int → Nat → List Int → List Int
  | xs, _, [] => xs
  | xs, o, y :: r => setM (xs.set o y) (o + 1) r
theorem setM_len : ∀ (ys : List Int) (xs : List Int) (o : Nat), (setM xs o ys).length = xs.length
  | [], xs, o => rfl
  | y :: r, xs, o => by rw [setM, setM_len r, List.length_set]
theorem setM_get : ∀ (ys : List Int) (xs : List Int) (o j : Nat), o + ys.length ≤ xs.length → (setM xs o ys)[j]? = if o ≤ j ∧ j < o + ys.length then ys[j - o]? else xs[j]?
  | [], xs, o, j, _ => by rw [setM, if_neg (by simp only [List.length_nil]; omega)]
  | y :: r, xs, o, j, h => by
    have hl : o + (r.length + 1) ≤ xs.length := by simpa using h
    rw [setM, setM_get r _ (o + 1) j (by simp; omega)]
    simp only [List.length_cons]
    by_cases e : j = o
    · subst e
      rw [if_neg (by omega), if_pos (by omega), Nat.sub_self, List.getElem?_set, if_pos rfl, if_pos (by omega)]
      rfl
    · by_cases c : o + 1 ≤ j ∧ j < o + 1 + r.length
      · rw [if_pos c, if_pos (by omega)]
        obtain ⟨t, rfl⟩ : ∃ t, j = o + 1 + t := ⟨j - (o + 1), by omega⟩
        rw [show o + 1 + t - (o + 1) = t by omega, show o + 1 + t - o = t + 1 by omega]
        simp
      · rw [if_neg c, if_neg (by omega), List.getElem?_set, if_neg (fun h_ => e h_.symm)]
theorem setM_all (xs ys : List Int) (h : ys.length = xs.length) : setM xs 0 ys = ys := by
  apply List.ext_getElem?
  intro j
  rw [setM_get ys xs 0 j (by omega)]
  by_cases c : j < ys.length
  · rw [if_pos (by omega), Nat.sub_zero]
  · rw [if_neg (by omega), List.getElem?_eq_none (by omega), List.getElem?_eq_none (by omega)]
theorem R_cells {e base b n cap : Nat} : ∀ (ys : List Int) (o : Nat) (xs : List Int) (W0 wr : World), Kd.R (Kd.int .i64) e wr base (fun _ => True) (.slice (some ⟨b, 0, none⟩) n cap) xs → Below b W0 wr → Kd.R (Kd.int .i64) e (wr.setCells b o (ys.map (Value.int .i64))) base (fun _ => True) (.slice (some ⟨b, 0, none⟩) n cap) (setM xs o ys) ∧ Below b W0 (wr.setCells b o (ys.map (Value.int .i64)))
  | [], o, xs, W0, wr, hR, hB => ⟨hR, hB⟩
  | y :: r, o, xs, W0, wr, hR, hB => by
    have h1 := (Kd.R_putg hR (o : Int) y).1
    rw [Int.toNat_natCast] at h1
    exact R_cells r (o + 1) (xs.set o y) W0 (wr.setCell ⟨b, o, none⟩ (.int .i64 y)) h1 (hB.setCell (Nat.le_refl _) _)
/-- a whole row written anew -/
theorem R_putrow {e base b cap : Nat} {W : World} {xs : List Int} (ys : List Int) (q : Nat) (hR : Kd.R (Kd.int .i64) e W base (fun _ => True) (.slice (some ⟨b, 0, none⟩) xs.length cap) xs) (h : ys.length = xs.length) : Kd.R (Kd.int .i64) e ((W.drewN q).setCells b 0 (ys.map (Value.int .i64))) base (fun _ => True) (.slice (some ⟨b, 0, none⟩) ys.length cap) ys ∧ Below b W ((W.drewN q).setCells b 0 (ys.map (Value.int .i64))) := by
  have hd : Below W.heap.size W (W.drewN q) := pw_below_drewN (Below.refl _ _) q
  have hd2 : Below b W (W.drewN q) := pw_below_drewN (Below.refl _ _) q
  have k := R_cells ys 0 xs W (W.drewN q) (Kd.R_below hR hd) hd2
  rw [setM_all xs ys h] at k
  rw [h]
  exact k
theorem R_holds {e base b cap : Nat} {W : World} {xs : List Int} (hR : Kd.R (Kd.int .i64) e W base (fun _ => True) (.slice (some ⟨b, 0, none⟩) xs.length cap) xs) : Go.Sort.Holds (Value.int .i64) W b 0 xs.toArray := by
  intro j hj
  have hj2 : j < xs.length := by simpa using hj
  have k := Kd.R_celln 0 hR (j : Int) (Int.natCast_nonneg _) (Int.ofNat_lt.2 hj2)
  rw [Int.toNat_natCast] at k
  rw [Nat.zero_add]
  refine ⟨k.1.trans ?_, k.2⟩
  congr 2
  unfold rdOf
  rw [Int.toNat_natCast]
  simp [List.getD, hj2]
theorem below_grow (X : World) (os : Array Obj) : Below X.heap.size X (Go.Sort.grow X os) :=
  ⟨rfl, rfl, rfl, by show _ ≤ (X.heap ++ os).size; rw [Array.size_append]; omega, fun k hk => by show (X.heap ++ os)[k]? = _; rw [Array.getElem?_append_left hk]⟩
/-- a literal within its bounds -/
abbrev RI := {x : Int // inR x}
instance : Inhabited RI := ⟨⟨0, by decide⟩⟩
def toR (x : Int) : RI := if h : inR x then ⟨x, h⟩ else default
theorem toR_val {x : Int} (h : inR x) : (toR x).1 = x := by unfold toR; rw [dif_pos h]
def encR (x : RI) : Value := .int .i64 x.1
def cfR (x y : RI) : Int := rk x.1 - rk y.1
theorem ltR (x y : RI) : ltOf cfR x y = decide (rk x.1 < rk y.1) := by
  unfold ltOf cfR
  apply decide_eq_decide.2
  omega
theorem swoR : Go.Sort.SWO (ltOf cfR) where
  irrefl x := by rw [ltR]; simp
  trans x y z h1 h2 := by rw [ltR] at *; simp at *; omega
  ntrans x y z h1 h2 := by rw [ltR] at *; simp at *; omega
theorem totR (x y : RI) (h1 : ltOf cfR x y = false) (h2 : ltOf cfR y x = false) : x = y := by
  rw [ltR] at h1 h2
  have a := of_decide_eq_false h1
  have b := of_decide_eq_false h2
  exact Subtype.ext (rk_inj (by omega))
def leR (x y : Int) : Bool := decide (rk x ≤ rk y)
theorem rank_is {a : Int} (ha : inR a) : impl_rank.f a = some (rk a) := by
  obtain ⟨h1, h2⟩ := ha
  have e1 : wrap64 (2 * a) = 2 * a := IntWalk.wrap64_in _ ⟨by omega, by omega⟩
  have e2 : wrap64 (1 - 2 * a) = 1 - 2 * a := IntWalk.wrap64_in _ ⟨by omega, by omega⟩
  unfold impl_rank.f rk
  rw [e1, e2]
  split <;> rfl
theorem compare_is (x y : RI) : impl_compareLiterals.f x.1 y.1 = some (cfR x y) := by
  unfold impl_compareLiterals.f cfR
  rw [rank_is x.2, rank_is y.2, Option.bind_some, Option.bind_some]
  congr 1
  have h1 := x.2
  have h2 := y.2
  unfold inR at h1 h2
  have k1 : -2000001 ≤ rk x.1 ∧ rk x.1 ≤ 2000001 := by unfold rk; split <;> omega
  have k2 : -2000001 ≤ rk y.1 ∧ rk y.1 ≤ 2000001 := by unfold rk; split <;> omega
  exact IntWalk.wrap64_in _ ⟨by omega, by omega⟩
theorem cmpR (blk off size : Nat) (w : World) : CmpReads Try.prog 115 #[] encR cfR blk off size w := fun m os dk _ x y =>
  (impl_compareLiterals.calls x.1 y.1 _ _ (compare_is x y)).mono fun e w' h => ⟨h.1, h.2.out⟩
theorem encs_eq (l : List RI) : l.map encR = (l.map (·.1)).map (Value.int .i64) := by
  rw [List.map_map]; rfl
def sortL (l : List Int) : List Int := l.mergeSort leR
theorem sortL_map (l : List RI) : (l.mergeSort fun x y => !(ltOf cfR) y x).map (·.1) = sortL (l.map (·.1)) := by
  unfold sortL
  apply List.map_mergeSort
  intro a _ b _
  rw [ltR]
  unfold leR
  by_cases h : rk a.1 ≤ rk b.1
  · rw [decide_eq_true h, decide_eq_false (by omega)]; rfl
  · rw [decide_eq_false h, decide_eq_true (by omega)]; rfl
theorem map_toR {l : List Int} (h : ∀ x ∈ l, inR x) : (l.map toR).map (·.1) = l := by
  rw [List.map_map]
  conv => rhs; rw [← List.map_id l]
  exact List.map_congr_left fun x hx => toR_val (h x hx)
set_option maxHeartbeats 1000000 in
theorem sort_any (l : List Int) (b cap base : Nat) (W : World) (hR : Kd.R (Kd.int .i64) 3 W base (fun _ => True) (.slice (some ⟨b, 0, none⟩) l.length cap) l) (hin : ∀ x ∈ l, inR x) (hb : b < W.heap.size) (hn : l.length ≤ 4096) :
    Calls Try.prog 114 #[.slice (some ⟨b, 0, none⟩) l.length cap, .func (.func 115) #[] #[]] W fun e W' => e = .returned (.tuple #[]) ∧ Kd.R (Kd.int .i64) 3 W' base (fun _ => True) (.slice (some ⟨b, 0, none⟩) l.length cap) (sortL l) ∧ Below b W W' := by
  have hm := map_toR hin
  have hsz : (l.map toR).toArray.size = l.length := by simp
  have hH : Go.Sort.Holds encR W b 0 (l.map toR).toArray := by
    intro j hj
    have k := R_holds hR j (by simpa using hj)
    refine ⟨k.1.trans ?_, k.2⟩
    have hj2 : j < l.length := by simpa using hj
    have hv : (toR l[j]).1 = l[j] := toR_val (hin _ (List.getElem_mem hj2))
    simp only [encR]
    congr 2
    simp [hj2, hv]
  have hS := Any.slices_SortFunc_total Try.sortL encR (fun _ => rfl) cfR swoR 115 #[] b 0 cap (l.map toR).toArray W (enters_of Try.func115 (by kernel_rfl) rfl) (cmpR b 0 _ W).lays hH hb (by rw [hsz]; omega) totR
  rw [hsz] at hS
  change Calls Try.prog 114 _ _ _ at hS
  refine hS.mono ?_
  rintro e W' ⟨rfl, n, os, rfl⟩
  refine ⟨rfl, ?_⟩
  have e1 : ((l.map toR).mergeSort fun x y => !(ltOf cfR) y x).map (·.1) = sortL l := by rw [sortL_map, hm]
  have hl1 : ((l.map toR).mergeSort fun x y => !(ltOf cfR) y x).length = (l.map toR).toArray.size := by rw [List.length_mergeSort]; simp
  have e2 := Lib.putRow_eq_setCells encR W b 0 (l.map toR).toArray ((l.map toR).mergeSort fun x y => !(ltOf cfR) y x) n hH hl1
  rw [encs_eq, e1] at e2
  have hl : (sortL l).length = l.length := by unfold sortL; rw [List.length_mergeSort]
  obtain ⟨k1, k2⟩ := R_putrow (sortL l) n hR hl
  rw [hl] at k1
  unfold sortWorld
  rw [show (l.map toR).toArray.toList = l.map toR from rfl, e2]
  have hg : ∀ X : World, Below X.heap.size X (Go.Sort.grow X os) := fun X => below_grow X os
  exact ⟨Kd.R_below k1 (hg _), k2.trans ((hg _).mono (Nat.le_trans (Nat.le_of_lt hb) k2.size))⟩

theorem compact_any (l : List Int) (b cap base : Nat) (W : World) (hR : Kd.R (Kd.int .i64) 3 W base (fun _ => True) (.slice (some ⟨b, 0, none⟩) l.length cap) l) (hn : l.length ≤ 4096) :
    Calls Try.prog 116 #[.slice (some ⟨b, 0, none⟩) l.length cap] W fun e W' => ∃ v, e = .returned v ∧ Kd.R (Kd.int .i64) 3 W' base (fun _ => True) v (Lib.compact l) ∧ Below b W W' := by
  have hcap : l.length ≤ cap := (Kd.R_reads' hR).2.1
  have hC := AnyG.slices_Compact_int Try.compL b 0 cap l W (R_holds hR) (by omega) hcap
  change Calls Try.prog 116 _ _ _ at hC
  refine hC.mono ?_
  rintro e W' ⟨rfl, q, rfl⟩
  have hle := Lib.compact_length_le l
  have hl : (Lib.compact l ++ List.replicate (l.length - (Lib.compact l).length) 0).length = l.length := by rw [List.length_append, List.length_replicate]; omega
  have e2 := Lib.putRow_eq_setCells (Value.int .i64) W b 0 l.toArray (Lib.compact l ++ List.replicate (l.length - (Lib.compact l).length) 0) q (R_holds hR) (by rw [hl]; simp)
  obtain ⟨k1, k2⟩ := R_putrow (Lib.compact l ++ List.replicate (l.length - (Lib.compact l).length) 0) q hR hl
  rw [e2]
  have k3 := Kd.R_take k1 (m := (Lib.compact l).length) (by rw [List.length_append]; omega)
  rw [List.take_left] at k3
  exact ⟨_, rfl, k3, k2⟩
set_option maxHeartbeats 4000000 in
set_option maxRecDepth 100000 in
theorem clone_all (A : Option Addr) (c : Nat) (l : List Int) (W : World) (hl : Kd.C (Kd.int .i64) W A l.length l) (hn : l.length ≤ 4096) :
    Calls Try.prog 113 #[.slice A l.length c] W fun e W' => ∃ v, e = .returned v ∧ Kd.R (Kd.int .i64) 3 W' W.heap.size (fun _ => True) v l ∧ Below W.heap.size W W' := by
  cases A with
  | none =>
    have h0 : l.length = 0 := by
      rcases Nat.eq_zero_or_pos l.length with h | h
      · exact h
      · obtain ⟨ad, ea, -⟩ := Kd.at_int hl 0 (by omega) (by omega)
        cases ea
    obtain rfl : l = [] := List.eq_nil_of_length_eq_zero h0
    have hq := fun (w : World) => Lib.run_eql_slice_nil w 37 3 none 0 c 0 0 Try.underlying37
    clear hl
    go_enter Try.func113, Try.ntmps113
    go_wp2
    go_ret
    exact ⟨_, rfl, Kd.R_nil _ _ _ _ _, Below.refl _ _⟩
  | some ad =>
    have HL := Aside0.mk hl
    have hq := fun (w : World) => Lib.run_eql_slice_nil w 37 3 (some ad) l.length c 0 0 Try.underlying37
    clear hl
    go_enter Try.func113, Try.ntmps113
    go_wp2_with (first
      | ((with_reducible refine gate_dst (N := 5) rfl ?_); refine Kd.R_lit (Kd.int .i64) _ 3 ?hg (N := 5) ?hd (xs := ([] : List Int)) (inner := []) (ok := fun _ => True) (okp := fun _ => True) ?hr ?hp (fun _ hk => hk) trivial (Below.refl _ _) (Nat.le_refl _) (by simp) ?_; (case hd => rfl); (case hg => rfl); (case hr => first | (go_simp; done) | (go_simp; rfl)); (case hp => exact (Reps.none _ _)); intro v1 w3 ho hb hg_ hnew_; clear hg_ hnew_; have HR := Aside0.mk ho; have HB := Aside0.mk hb; clear ho hb)
      | ((with_reducible refine gate_builtin (b := .append) (xs := #[.tmp 5, .tmp 6]) rfl ?_); at_builtin; refine Kd.R_append_rows (Kd.int .i64) (w0 := W) W.heap.size rfl (.tmp 5) (.tmp 6) 37 3 (.int .i64 0) 8 rfl Try.underlying37 info3 rfl (by decide) (by omega) v1 [] l _ _ _ (fun _ => True) (fun _ => False) rfl rfl ?aO ?aR (fun _ _ h => h) (fun _ h => h.elim) ?aF ?aB ?aS ?aL ?_; (case aR => exact Kd.C_below HL.out HB.out); (case aB => exact HB.out); (case aF => exact (fun _ _ => trivial)); (case aO => exact HR.out); (case aS => exact below_size HB.out); (case aL => simp; omega); intro v2 w7 ho hb hg hat; have HR2 := Aside0.mk ho; have HB2 := Aside0.mk hb; clear ho hb hg hat))
    go_ret
    exact ⟨v2, rfl, HR2.out, HB2.out⟩
/-- literals in order, each once -/
def ordL (l : List Int) : List Int := Lib.compact (sortL l)
def impl_inOrder.f (l : List Int) : Option (List Int) := if l.length ≤ 4096 ∧ ∀ x ∈ l, inR x then some (ordL l) else none
set_option maxHeartbeats 4000000 in
set_option maxRecDepth 100000 in
theorem impl_inOrder.calls (A0 : Option Addr) (c0 : Nat) (l0 : List Int) (r : List Int) (w : World) (hr0 : Kd.C (Kd.int .i64) w A0 l0.length l0) (hc0 : l0.length ≤ c0) (h : impl_inOrder.f l0 = some r) :
    Calls Try.prog 85 #[.slice A0 l0.length c0] w fun e w' => ∃ v0_ : Value, e = .returned v0_ ∧ Kd.R (Kd.int .i64) 3 w' w.heap.size (fun _ => True) v0_ r ∧ Below w.heap.size w w' := by
  unfold impl_inOrder.f at h
  by_cases hg : l0.length ≤ 4096 ∧ ∀ x ∈ l0, inR x
  rotate_left
  · rw [if_neg hg] at h
    cases h
  rw [if_pos hg] at h
  obtain ⟨hn, hin⟩ := hg
  obtain rfl := Option.some.inj h
  clear h
  have hcl := clone_all A0 c0 l0 w hr0 hn
  have HIN := Aside0.mk hin
  clear hr0 hin
  by_cases hp : l0.length = 0
  · obtain rfl : l0 = [] := List.eq_nil_of_length_eq_zero hp
    have hs := fun (A : Option Addr) (c : Nat) (W : World) => AnyF.slices_SortFunc_none (P := Try.prog) (ρ := Try.sortL_ren) { Try.sortL with } A c (.func (.func 115) #[] #[]) W
    have hc := fun (A : Option Addr) (c : Nat) (W : World) => AnyG.slices_Compact_int_empty Try.compL A c W
    change ∀ A c W, Calls Try.prog 114 _ _ _ at hs
    change ∀ A c W, Calls Try.prog 116 _ _ _ at hc
    go_enter Try.func85, Try.ntmps85
    go_wp2_with (first
      | (go_at_call 113; refine hcl.mono ?_; rintro e w2 ⟨v, rfl, hR, hb⟩; clear hcl; obtain ⟨A2, c2, e2⟩ := Kd.R_slice hR; subst e2; have HR := Aside0.mk hR; have HB := Aside0.mk hb; clear hR hb)
      | (go_at_call 114; refine (hs _ _ _).mono ?_; rintro e w3 ⟨rfl, rfl⟩)
      | (go_at_call 116; refine (hc _ _ _).mono ?_; rintro e w4 ⟨rfl, rfl⟩))
    go_ret
    have e0 : ordL [] = [] := by unfold ordL sortL; rw [List.mergeSort_nil]; rfl
    rw [e0]
    exact ⟨_, rfl, HR.out, HB.out⟩
  · have hp1 : 0 < l0.length := Nat.pos_of_ne_zero hp
    go_enter Try.func85, Try.ntmps85
    go_wp2_with (first
      | (go_at_call 113; refine hcl.mono ?_; rintro e w2 ⟨v, rfl, hR, hb⟩; clear hcl; obtain ⟨b, cap, ev, hb0, hb1, -⟩ := Kd.R_form hR hp1; subst ev; have hst := sort_any l0 b cap w.heap.size w2 hR HIN.out hb1 hn; have HB := Aside0.mk hb; clear hR hb)
      | (go_at_call 114; refine hst.mono ?_; rintro e w3 ⟨rfl, hR, hb⟩; clear hst; have hls : (sortL l0).length = l0.length := List.length_mergeSort _; have hcp := compact_any (sortL l0) b cap w.heap.size w3 (by rw [hls]; exact hR) (by rw [hls]; exact hn); rw [hls] at hcp; have HB2 := Aside0.mk (HB.out.trans (hb.mono hb0)); clear hR hb HB)
      | (go_at_call 116; refine hcp.mono ?_; rintro e w4 ⟨v4, rfl, hR, hb⟩; clear hcp; have HR := Aside0.mk hR; have HB := Aside0.mk (HB2.out.trans (hb.mono hb0)); clear hR hb HB2))
    go_ret
    exact ⟨_, rfl, HR.out, HB.out⟩

-- NOT PRINTED: function 117 (slices_Grow_int_int)

/-! ### slices_Concat_int_int: function 86 -/
set_option maxHeartbeats 800000 in
set_option maxRecDepth 100000 in
theorem grow_any (n : Int) (w : World) (h0 : 0 < n) (h1 : n ≤ 1099511627776) :
    Calls Try.prog 117 #[.slice none 0 0, .int .i64 n] w fun e W' => ∃ v, e = .returned v ∧ Kd.R (Kd.int .i64) 3 W' w.heap.size (fun _ => True) v [] ∧ Below w.heap.size w W' := by
  have e1 : IntKind.i64.wrap n = n := IntWalk.i64_in _ (by omega)
  have hh : ¬ n < 0 := by omega
  go_enter Try.func117, Try.ntmps117
  go_wp2_with ((with_reducible refine gate_builtin (b := .append) (xs := #[.tmp 20, .tmp 21]) rfl ?_); at_builtin; refine Kd.R_append_zeros (Kd.int .i64) (w0 := w) w.heap.size rfl (.tmp 20) (.tmp 21) 37 3 3 (.int .i64 0) 8 rfl Try.underlying37 (k := .i64) Try.underlying3 info3 rfl (by decide) (by omega) (.slice none 0 0) [] (0 : Int) (kx := .i64) n (fun _ => True) rfl rfl rfl (fun _ _ => trivial) (Kd.R_nil _ _ _ _ _) (by omega) (Below.refl _ _) (Nat.le_refl _) (by simp; omega) ?_; intro v1 w1 ho hb hg hat; obtain ⟨A1, c1, e1⟩ := Kd.R_slice ho; subst e1; have HO := Aside0.mk (Kd.R_take ho (m := 0) (Nat.zero_le _)); have HB := Aside0.mk hb; clear ho hb hg hat)
  go_ret
  exact ⟨_, rfl, HO.out, HB.out⟩
theorem grow_all (n : Int) (w : World) (h0 : 0 ≤ n) (h1 : n ≤ 1099511627776) :
    Calls Try.prog 117 #[.slice none 0 0, .int .i64 n] w fun e W' => ∃ v, e = .returned v ∧ Kd.R (Kd.int .i64) 3 W' w.heap.size (fun _ => True) v [] ∧ Below w.heap.size w W' := by
  by_cases h : 0 < n
  · exact grow_any n w h h1
  obtain rfl : n = 0 := by omega
  go_enter Try.func117, Try.ntmps117
  go_wp2
  go_ret
  exact ⟨_, rfl, Kd.R_nil _ _ _ _ _, Below.refl _ _⟩
theorem flat_take (ls : List (List Int)) (i : Nat) (h : i < ls.length) : (ls.take (i + 1)).flatten = (ls.take i).flatten ++ ls.getD i [] := by
  rw [List.take_succ_eq_append_getElem h, List.flatten_append, List.getD_eq_getElem?_getD, List.getElem?_eq_getElem h]
  simp
theorem flat_len (ls : List (List Int)) : ∀ i : Nat, (ls.take i).flatten.length ≤ ls.flatten.length := fun i => by
  conv => rhs; rw [← List.take_append_drop i ls, List.flatten_append, List.length_append]
  exact Nat.le_add_right _ _
set_option maxHeartbeats 1600000 in
set_option maxRecDepth 100000 in
theorem concat_all (A : Option Addr) (c : Nat) (ls : List (List Int)) (w : World) (hC : Kd.C (Kd.slice 3 (Kd.int .i64)) w A ls.length ls) (h1 : ls.flatten.length ≤ 1073741824) :
    Calls Try.prog 86 #[.slice A ls.length c] w fun e W' => ∃ v, e = .returned v ∧ Kd.R (Kd.int .i64) 3 W' w.heap.size (fun _ => True) v ls.flatten ∧ Below w.heap.size w W' := by
  have HC := Aside0.mk hC
  have hmax : ls.length ≤ 9223372036854775807 := Kd.C_max hC
  have H1 := Aside0.mk h1
  clear hC h1
  go_enter Try.func86, Try.ntmps86
  go_wp2
  go_loopg [3, 11] ls.length (fun gg v3 v11 wr => ∃ (kk : Nat), v3 = .int .i64 ((ls.take kk).flatten.length : Int) ∧ v11 = .int .i64 kk ∧ kk ≤ ls.length ∧ ls.length - kk ≤ gg ∧ w = wr)
  case atStart => exact ⟨0, by simp, rfl, Nat.zero_le _, by omega, rfl⟩
  case round =>
    obtain ⟨kk, rfl, rfl, hk, hg, rfl⟩ := hrel
    by_cases hlt : kk < ls.length
    · have hltz : (kk : Int) < (ls.length : Int) := by omega
      have h0z : (0 : Int) ≤ (kk : Int) := by omega
      obtain ⟨ad, A2, c2, ea, hx, -, -⟩ := at_L1 HC.out (kk : Int) h0z hltz
      subst ea
      rw [Int.toNat_natCast] at hx
      have hrd : rd_L1 ls (kk : Int) = ls.getD kk [] := by unfold rd_L1; rw [Int.toNat_natCast]
      rw [hrd] at hx
      have hf := flat_take ls kk hlt
      have hl1 := flat_len ls (kk + 1)
      have hl2 : (ls.take (kk + 1)).flatten.length = (ls.take kk).flatten.length + (ls.getD kk []).length := by rw [hf, List.length_append]
      have hb := H1.out
      obtain ⟨m, hm⟩ : ∃ m, (ls.take kk).flatten.length = m := ⟨_, rfl⟩
      obtain ⟨p, hp⟩ : ∃ p, (ls.getD kk []).length = p := ⟨_, rfl⟩
      rw [hm, hp] at hl2
      rw [hp] at hx
      rw [hm]
      have HL2 := Aside0.mk hl2
      have ew : IntKind.i64.wrap ((kk : Int) + 1) = ((kk + 1 : Nat) : Int) := IntWalk.i64_in _ (by omega)
      have ew2 : IntKind.i64.wrap ((m : Int) + (p : Int)) = ((m + p : Nat) : Int) := IntWalk.i64_in _ (by omega)
      have hnn : ¬ ((m + p : Nat) : Int) < 0 := by omega
      clear hf hl1 hl2 hb hm hp hrd
      go_wp2
      go_roundg (gk - 1)
      case measure => omega
      case rel => exact ⟨kk + 1, by rw [HL2.out, Int.natCast_add], rfl, by omega, by omega, rfl⟩
    · obtain rfl : kk = ls.length := by omega
      rw [List.take_length]
      have hgr := grow_all (ls.flatten.length : Int) w (by omega) (by have := H1.out; omega)
      obtain ⟨m, hm⟩ : ∃ m, ls.flatten.length = m := ⟨_, rfl⟩
      rw [hm] at hgr
      rw [hm]
      go_wp2_with (go_at_call 117; refine hgr.mono ?_; rintro e w2 ⟨v, rfl, hR, hb⟩; clear hgr; have HR := Aside0.mk hR; have HB := Aside0.mk hb; clear hR hb)
      go_loopg [6, 27] ls.length (fun gg v6 v27 wr2 => ∃ (kk : Nat), v27 = .int .i64 kk ∧ kk ≤ ls.length ∧ ls.length - kk ≤ gg ∧ Aside0 (Kd.R (Kd.int .i64) 3 wr2 w.heap.size (fun _ => True) v6 (ls.take kk).flatten) ∧ Aside0 (Below w.heap.size w wr2))
      case atStart => exact ⟨0, rfl, Nat.zero_le _, by omega, by simpa using HR, HB⟩
      case round =>
        clear HR HB
        obtain ⟨kk, rfl, hk, hg, HR, HB⟩ := hrel
        by_cases hlt2 : kk < ls.length
        · have hltz : (kk : Int) < (ls.length : Int) := by omega
          have h0z : (0 : Int) ≤ (kk : Int) := by omega
          obtain ⟨ad, A2, c2, ea, hx, hlc, hC2⟩ := at_L1 HC.out (kk : Int) h0z hltz
          subst ea
          rw [Int.toNat_natCast] at hx
          have hrd : rd_L1 ls (kk : Int) = ls.getD kk [] := by unfold rd_L1; rw [Int.toNat_natCast]
          have HF := Aside0.mk (flat_take ls kk hlt2)
          have HL := Aside0.mk (flat_len ls (kk + 1))
          rw [hrd] at hx hC2
          have HC2 := Aside0.mk (Kd.C_below hC2 HB.out)
          have hx2 := (HB.out.cell (World.block_lt_of_cell? w _ hx)).trans hx
          obtain ⟨q, hq⟩ : ∃ q, ls.getD kk [] = q := ⟨_, rfl⟩
          rw [hq] at HF HC2 hx2
          have ew : IntKind.i64.wrap ((kk : Int) + 1) = ((kk + 1 : Nat) : Int) := IntWalk.i64_in _ (by omega)
          clear hx hC2 hrd hq hlc
          go_wp2_with ((with_reducible refine gate_builtin (b := .append) (xs := #[.tmp 31, .tmp 32]) rfl ?_); at_builtin; refine Kd.R_append_rows (Kd.int .i64) (w0 := w) w.heap.size rfl (.tmp 31) (.tmp 32) 37 3 (.int .i64 0) 8 rfl Try.underlying37 info3 rfl (by decide) (by omega) _ (ls.take kk).flatten q _ _ _ (fun _ => True) (fun _ => False) rfl rfl ?aO ?aR (fun _ _ h => h) (fun _ h => h.elim) ?aF ?aB ?aS ?aL ?_; (case aR => exact HC2.out); (case aB => exact HB.out); (case aF => exact (fun _ _ => trivial)); (case aO => exact HR.out); (case aS => exact below_size HB.out); (case aL => have h1_ := HL.out; have h2_ := H1.out; rw [HF.out, List.length_append] at h1_; omega); intro v1 w7 ho hb hg2 hat; rw [← HF.out] at ho; have n0_ := Aside0.mk ho; have n1_ := Aside0.mk hb; clear ho hb hg2 hat HR HB)
          go_roundg (gk - 1)
          case measure => omega
          case rel => exact ⟨kk + 1, rfl, by omega, by omega, n0_, n1_⟩
        · obtain rfl : kk = ls.length := by omega
          have hr := HR.out
          rw [List.take_length] at hr
          go_wp2
          go_ret
          exact ⟨_, rfl, hr, HB.out⟩
theorem concat_any (A : Option Addr) (c : Nat) (ls : List (List Int)) (w : World) (hC : Kd.C (Kd.slice 3 (Kd.int .i64)) w A ls.length ls) (h0 : 0 < ls.flatten.length) (h1 : ls.flatten.length ≤ 1073741824) :
    Calls Try.prog 86 #[.slice A ls.length c] w fun e W' => ∃ v, e = .returned v ∧ Kd.R (Kd.int .i64) 3 W' w.heap.size (fun _ => True) v ls.flatten ∧ Below w.heap.size w W' :=
  concat_all A c ls w hC h1

/-! ### slices_Clone_int_int: function 113 -/
set_option maxHeartbeats 4000000 in
set_option maxRecDepth 100000 in
theorem cloneI_any (A : Option Addr) (c : Nat) (l : List Int) (W : World) (hl : Kd.C (Kd.int .i64) W A l.length l) (hp : 0 < l.length) (hn : l.length ≤ 4096) :
    Calls Try.prog 113 #[.slice A l.length c] W fun e W' => ∃ v, e = .returned v ∧ Kd.R (Kd.int .i64) 3 W' W.heap.size (fun _ => True) v l ∧ Below W.heap.size W W' := by
  obtain ⟨ad, ea, -⟩ := Kd.at_int hl 0 (by omega) (by omega)
  subst ea
  have HL := Aside0.mk hl
  have hq := fun (w : World) => Lib.run_eql_slice_nil w 37 3 (some ad) l.length c 0 0 Try.underlying37
  clear hl
  go_enter Try.func113, Try.ntmps113
  go_wp2_with (first
    | ((with_reducible refine gate_dst (N := 5) rfl ?_); refine Kd.R_lit (Kd.int .i64) _ 3 ?hg (N := 5) ?hd (xs := ([] : List Int)) (inner := []) (ok := fun _ => True) (okp := fun _ => True) ?hr ?hp (fun _ hk => hk) trivial (Below.refl _ _) (Nat.le_refl _) (by simp) ?_; (case hd => rfl); (case hg => rfl); (case hr => first | (go_simp; done) | (go_simp; rfl)); (case hp => exact (Reps.none _ _)); intro v1 w3 ho hb hg_ hnew_; clear hg_ hnew_; have HR := Aside0.mk ho; have HB := Aside0.mk hb; clear ho hb)
    | ((with_reducible refine gate_builtin (b := .append) (xs := #[.tmp 5, .tmp 6]) rfl ?_); at_builtin; refine Kd.R_append_rows (Kd.int .i64) (w0 := W) W.heap.size rfl (.tmp 5) (.tmp 6) 37 3 (.int .i64 0) 8 rfl Try.underlying37 info3 rfl (by decide) (by omega) v1 [] l _ _ _ (fun _ => True) (fun _ => False) rfl rfl ?aO ?aR (fun _ _ h => h) (fun _ h => h.elim) ?aF ?aB ?aS ?aL ?_; (case aR => exact Kd.C_below HL.out HB.out); (case aB => exact HB.out); (case aF => exact (fun _ _ => trivial)); (case aO => exact HR.out); (case aS => exact below_size HB.out); (case aL => simp; omega); intro v2 w7 ho hb hg hat; have HR2 := Aside0.mk ho; have HB2 := Aside0.mk hb; clear ho hb hg hat))
  go_ret
  exact ⟨v2, rfl, HR2.out, HB2.out⟩

-- NOT PRINTED: function 118 (slices_DeleteFunc_int_int)

/-! ### impl_without: function 87 -/
theorem without_fn (x y : Int) (B : Nat) (W : World) (hB : W.cell? ⟨B, 0, none⟩ = some (.int .i64 x)) :
    Calls Try.prog 119 #[.int .i64 y, .pointer (some ⟨B, 0, none⟩)] W fun e W' => e = .returned (.bool (y == x)) ∧ W' = W := by
  go_enter Try.func119, Try.ntmps119
  go_wp2
  go_ret
  exact ⟨rfl, rfl⟩
set_option maxHeartbeats 1600000 in
theorem indexW_any (x : Int) (B : Nat) (A : Option Addr) (c : Nat) (l : List Int) (W : World) (hB : W.cell? ⟨B, 0, none⟩ = some (.int .i64 x)) (hl : Kd.C (Kd.int .i64) W A l.length l) :
    Calls Try.prog 126 #[.slice A l.length c, .func (.func 119) #[] #[.pointer (some ⟨B, 0, none⟩)]] W fun e W' => e = .returned (.int .i64 (idxL x l 0)) ∧ W' = W := by
  have HL := Aside0.mk hl
  have HX := Aside0.mk hB
  have hmax : l.length ≤ 9223372036854775807 := Kd.C_max hl
  clear hl hB
  obtain ⟨r, hr⟩ : ∃ r, idxL x l 0 = r := ⟨_, rfl⟩
  rw [hr]
  have H' : Aside0 (idxL x (l.drop 0) 0 = r) := ⟨by rw [List.drop_zero]; exact hr⟩
  clear hr
  go_enter Try.func126, Try.ntmps126
  go_wp2
  go_loopg [8] l.length (fun gg v8 wr => ∃ (kk : Nat), v8 = .int .i64 kk ∧ kk ≤ l.length ∧ l.length - kk ≤ gg ∧ Aside0 (idxL x (l.drop kk) kk = r) ∧ wr = W)
  case atStart => exact ⟨0, rfl, Nat.zero_le _, by omega, H', rfl⟩
  case round =>
    clear H'
    obtain ⟨kk, rfl, hk, hg, HA, rfl⟩ := hrel
    by_cases hlt : kk < l.length
    · have hltz : (kk : Int) < (l.length : Int) := by omega
      have h0z : (0 : Int) ≤ (kk : Int) := by omega
      obtain ⟨ad, ea, hx⟩ := Kd.at_int HL.out (kk : Int) h0z hltz
      subst ea
      rw [Int.toNat_natCast] at hx
      have hrd : rd l (kk : Int) = l[kk] := by unfold rd; simp [List.getD, hlt]
      have hA := HA.out
      rw [List.drop_eq_getElem_cons hlt, idxL, ← hrd] at hA
      have ew : IntKind.i64.wrap ((kk : Int) + 1) = ((kk + 1 : Nat) : Int) := IntWalk.i64_in _ (by omega)
      clear hrd HA
      generalize rd l (kk : Int) = y at hx hA
      have hfn := without_fn x y B wr HX.out
      by_cases h0 : x = y
      · rw [if_pos h0] at hA
        subst h0
        subst hA
        have he : (x == x) = true := by simp
        rw [he] at hfn
        go_wp2_with (go_at_call 119; refine hfn.mono ?_; rintro e w' ⟨rfl, rfl⟩)
        go_ret
        exact ⟨rfl, rfl⟩
      · rw [if_neg h0] at hA
        have he : (y == x) = false := beq_eq_false_iff_ne.mpr (fun e => h0 e.symm)
        rw [he] at hfn
        have HA2 := Aside0.mk hA
        clear hA
        go_wp2_with (go_at_call 119; refine hfn.mono ?_; rintro e w' ⟨rfl, rfl⟩)
        go_roundg (gk - 1)
        case measure => omega
        case rel => exact ⟨kk + 1, rfl, by omega, by omega, HA2, rfl⟩
    · have hA := HA.out
      obtain rfl : kk = l.length := by omega
      rw [List.drop_length, idxL] at hA
      subst hA
      go_wp2
      go_ret
      exact ⟨rfl, rfl⟩
theorem idxL_at (x : Int) : ∀ (l : List Int) (i : Nat), 0 ≤ idxL x l i → ∃ j : Nat, idxL x l i = ((i + j : Nat) : Int) ∧ j < l.length ∧ (l.take (j + 1)).filter (fun y => y != x) = l.take j
  | [], i, h => by rw [idxL] at h; omega
  | y :: r, i, h => by
    rw [idxL] at h ⊢
    by_cases hy : x = y
    · rw [if_pos hy]
      exact ⟨0, by omega, by simp, by subst hy; simp⟩
    · rw [if_neg hy] at h ⊢
      obtain ⟨j, h1, h2, h3⟩ := idxL_at x r (i + 1) h
      refine ⟨j + 1, by omega, by simpa using h2, ?_⟩
      have hne : (y != x) = true := bne_iff_ne.2 (fun e => hy e.symm)
      rw [List.take_succ_cons, List.filter_cons, if_pos hne, h3, List.take_succ_cons]
theorem R_clear {base b n cap : Nat} {W : World} : ∀ (m o : Nat) (ys : List Int) (wr : World), Kd.R (Kd.int .i64) 3 wr base (fun _ => True) (.slice (some ⟨b, 0, none⟩) n cap) ys → o + m ≤ ys.length → Below b W wr → ∃ zs : List Int, zs.length = ys.length ∧ zs.take o = ys.take o ∧ Kd.R (Kd.int .i64) 3 (wr.setCells b o (List.replicate m (.int .i64 0))) base (fun _ => True) (.slice (some ⟨b, 0, none⟩) n cap) zs ∧ Below b W (wr.setCells b o (List.replicate m (.int .i64 0)))
  | 0, o, ys, wr, hR, _, hB => ⟨ys, rfl, rfl, hR, hB⟩
  | m + 1, o, ys, wr, hR, hm, hB => by
    have h1 := (Kd.R_putg hR (o : Int) 0).1
    rw [Int.toNat_natCast] at h1
    obtain ⟨zs, z1, z2, z3, z4⟩ := R_clear m (o + 1) (ys.set o 0) (wr.setCell ⟨b, o, none⟩ (.int .i64 0)) h1 (by simp; omega) (hB.setCell (Nat.le_refl _) _)
    refine ⟨zs, by simpa using z1, ?_, z3, z4⟩
    have h2 := congrArg (List.take o) z2
    rw [List.take_take, List.take_take, Nat.min_eq_left (by omega)] at h2
    rw [h2, List.take_set, List.set_eq_of_length_le (by simp; omega)]
theorem keepBut_of {W W' : World} {b : Nat} (h : ∀ i, i < W.heap.size → i ≠ b → W'.heap[i]? = W.heap[i]?) (hs : W.heap.size ≤ W'.heap.size) : KeepBut W W' b none := ⟨hs, fun i hi hne _ => h i hi hne⟩
theorem keep_cells {W : World} {b : Nat} : ∀ (vs : List Value) (o : Nat) (W2 : World), KeepBut W W2 b none → KeepBut W (W2.setCells b o vs) b none
  | [], _, _, h => h
  | v :: r, o, W2, h => keep_cells r (o + 1) _ (KeepBut.set_ h o v)
set_option maxHeartbeats 1600000 in
set_option maxRecDepth 100000 in
theorem delW_any (x : Int) (B b cap base : Nat) (l : List Int) (W : World) (hB : W.cell? ⟨B, 0, none⟩ = some (.int .i64 x)) (hBb : B ≠ b) (hR : Kd.R (Kd.int .i64) 3 W base (fun _ => True) (.slice (some ⟨b, 0, none⟩) l.length cap) l) (hx : 0 ≤ idxL x l 0) (hn : l.length ≤ 4096) :
    Calls Try.prog 118 #[.slice (some ⟨b, 0, none⟩) l.length cap, .func (.func 119) #[] #[.pointer (some ⟨B, 0, none⟩)]] W fun e W' => e = .returned (.slice (some ⟨b, 0, none⟩) (l.filter fun y => y != x).length cap) ∧ Kd.R (Kd.int .i64) 3 W' base (fun _ => True) (.slice (some ⟨b, 0, none⟩) (l.filter fun y => y != x).length cap) (l.filter fun y => y != x) ∧ Below b W W' ∧ KeepBut W W' b none := by
  obtain ⟨-, hcap, hC⟩ := Kd.R_reads' hR
  have hidx := indexW_any x B _ cap l W hB hC
  obtain ⟨j, hj1, hj2, hj3⟩ := idxL_at x l 0 hx
  rw [hj1, Nat.zero_add] at hidx
  have HR := Aside0.mk hR
  have HX := Aside0.mk hB
  have HB := Aside0.mk (Below.refl b W)
  have HK := Aside0.mk (KeepBut.refl W b none)
  have HY1 : Aside0 (l.take j = (l.take (j + 1)).filter fun y => y != x) := ⟨hj3.symm⟩
  obtain ⟨res, hres⟩ : ∃ res, (l.filter fun y => y != x) = res := ⟨_, rfl⟩
  rw [hres]
  have HRES := Aside0.mk hres
  have ewj : IntKind.i64.wrap ((j : Int) + 1) = ((j + 1 : Nat) : Int) := IntWalk.i64_in _ (by omega)
  have hne1 : ((j : Int) == -1) = false := beq_eq_false_iff_ne.mpr (by omega)
  clear hR hB hC hx hj1 hj3 hres
  go_enter Try.func118, Try.ntmps118
  go_wp2_with (go_at_call 126; refine hidx.mono ?_; rintro e w' ⟨rfl, hq⟩; have hq2 := hq.symm; clear hq hidx; subst hq2)
  go_loopg [5, 6] l.length (fun gg v5 v6 wr => ∃ (ii kk : Nat) (ys : List Int), v5 = .int .i64 ii ∧ v6 = .int .i64 kk ∧ ii < kk ∧ kk ≤ l.length ∧ l.length - kk ≤ gg ∧ ys.length = l.length ∧ Aside0 (ys.take ii = (l.take kk).filter fun y => y != x) ∧ Aside0 (ys.drop kk = l.drop kk) ∧ Aside0 (Kd.R (Kd.int .i64) 3 wr base (fun _ => True) (.slice (some ⟨b, 0, none⟩) l.length cap) ys) ∧ Aside0 (Below b W wr) ∧ Aside0 (KeepBut W wr b none))
  case atStart => exact ⟨j, j + 1, l, rfl, rfl, by omega, by omega, by omega, rfl, HY1, ⟨rfl⟩, HR, HB, HK⟩
  case round =>
    clear HY1 HR HB HK ewj
    obtain ⟨ii, kk, ys, rfl, rfl, hik, hk, hg, hly, HY1, HY2, HR, HB, HK⟩ := hrel
    by_cases hlt : kk < l.length
    · have hltz : (kk : Int) < (l.length : Int) := by omega
      have h0z : (0 : Int) ≤ (kk : Int) := by omega
      have hiz : (ii : Int) < (l.length : Int) := by omega
      have hi0 : (0 : Int) ≤ (ii : Int) := by omega
      obtain ⟨hcx, hfx⟩ := Kd.R_celln 0 HR.out (kk : Int) h0z hltz
      obtain ⟨hci, hfi⟩ := Kd.R_celln 0 HR.out (ii : Int) hi0 hiz
      rw [Int.toNat_natCast] at hcx hci hfi
      have hyk : rdOf 0 ys (kk : Int) = l[kk] := by
        have h1 := congrArg (fun z : List Int => z[0]?) HY2.out
        simp only [List.getElem?_drop, Nat.add_zero] at h1
        rw [List.getElem?_eq_getElem hlt] at h1
        unfold rdOf
        rw [Int.toNat_natCast, List.getD_eq_getElem?_getD, h1]
        rfl
      rw [hyk] at hcx
      have ew : IntKind.i64.wrap ((kk : Int) + 1) = ((kk + 1 : Nat) : Int) := IntWalk.i64_in _ (by omega)
      have ewi : IntKind.i64.wrap ((ii : Int) + 1) = ((ii + 1 : Nat) : Int) := IntWalk.i64_in _ (by omega)
      have hBx := (HK.out.2 B (World.block_lt_of_cell? W _ HX.out) hBb (by simp))
      have hcB := (World.cell?_of_block (w := W) (a := ⟨B, 0, none⟩) hBx).trans HX.out
      have hfn := without_fn x l[kk] B wr hcB
      have hd2 : ys.drop (kk + 1) = l.drop (kk + 1) := by
        have h1 := congrArg (List.drop 1) HY2.out
        rwa [List.drop_drop, List.drop_drop] at h1
      have htk : (l.take (kk + 1)).filter (fun y => y != x) = ys.take ii ++ (if (l[kk] != x) = true then [l[kk]] else []) := by
        rw [List.take_succ_eq_append_getElem hlt, List.filter_append, ← HY1.out, List.filter_cons, List.filter_nil]
      clear hfx hyk hBx hcB
      generalize l[kk] = y at hcx hfn htk
      by_cases hyx : y = x
      · subst hyx
        have he : (y == y) = true := by simp
        have he2 : (y != y) = false := by simp
        rw [he] at hfn
        rw [he2, if_neg Bool.false_ne_true, List.append_nil] at htk
        have HT := Aside0.mk htk.symm
        have HD := Aside0.mk hd2
        clear htk hd2 HY1 HY2
        go_wp2_with (go_at_call 119; refine hfn.mono ?_; rintro e w' ⟨rfl, hq⟩; have hq2 := hq.symm; clear hq hfn; subst hq2)
        go_roundg (gk - 1)
        case measure => omega
        case rel => exact ⟨ii, kk + 1, ys, rfl, rfl, by omega, by omega, by omega, hly, HT, HD, HR, HB, HK⟩
      · have he : (y == x) = false := beq_eq_false_iff_ne.mpr hyx
        have he2 : (y != x) = true := bne_iff_ne.mpr hyx
        rw [he] at hfn
        rw [he2, if_pos rfl] at htk
        have hput := (Kd.R_putg HR.out (ii : Int) y).1
        rw [Int.toNat_natCast] at hput
        have HR2 := Aside0.mk hput
        have HB2 := Aside0.mk (HB.out.setCell (p := ⟨b, ii, none⟩) (Nat.le_refl _) (.int .i64 y))
        have HK2 := Aside0.mk (KeepBut.set_ HK.out ii (.int .i64 y))
        have HT : Aside0 ((ys.set ii y).take (ii + 1) = (l.take (kk + 1)).filter fun y => y != x) := ⟨by
          rw [htk, List.take_succ_eq_append_getElem (by simp; omega), List.getElem_set_self, List.take_set, List.set_eq_of_length_le (by rw [List.length_take]; exact Nat.min_le_left _ _)]⟩
        have HD : Aside0 ((ys.set ii y).drop (kk + 1) = l.drop (kk + 1)) := ⟨by rw [← hd2, List.drop_set_of_lt (by omega)]⟩
        have hls : (ys.set ii y).length = l.length := by rw [List.length_set]; exact hly
        clear htk hd2 HY1 HY2 hput HR HB HK
        go_wp2_with (go_at_call 119; refine hfn.mono ?_; rintro e w' ⟨rfl, hq⟩; have hq2 := hq.symm; clear hq hfn; subst hq2)
        go_roundg (gk - 1)
        case measure => omega
        case rel => exact ⟨ii + 1, kk + 1, _, rfl, rfl, by omega, by omega, by omega, hls, HT, HD, HR2, HB2, HK2⟩
    · obtain rfl : kk = l.length := by omega
      have hy := HY1.out
      rw [List.take_length, HRES.out] at hy
      have hrl : res.length = ii := by rw [← hy, List.length_take]; omega
      have hcne : ¬ cap = ii := by omega
      have hcl : ∀ ty, (Builtin.clear_ #[37] ty #[.slice (some ⟨b, ii, none⟩) (l.length - ii) (cap - ii)]).run Try.prog wr = .ok (.tuple #[]) (wr.setCells b ii (List.replicate (l.length - ii) (.int .i64 0))) := fun ty =>
        Lib.run_clear_slice wr 37 3 ty (.int .i64 0) Try.underlying37 (fun w => by kernel_rfl) rfl rfl b ii (l.length - ii) (cap - ii) (by omega)
          (fun j hj => by
            have := (Kd.R_celln 0 HR.out ((ii + j : Nat) : Int) (by omega) (by omega)).1
            rw [Int.toNat_natCast] at this
            rw [this]
            rfl)
          (fun j hj => by
            have := (Kd.R_celln 0 HR.out ((ii + j : Nat) : Int) (by omega) (by omega)).2
            rwa [Int.toNat_natCast] at this)
      obtain ⟨zs, z1, z2, z3, z4⟩ := R_clear (W := W) (l.length - ii) ii ys wr HR.out (by omega) HB.out
      have HZ := Aside0.mk (show Kd.R (Kd.int .i64) 3 (wr.setCells b ii (List.replicate (l.length - ii) (.int .i64 0))) base (fun _ => True) (.slice (some ⟨b, 0, none⟩) ii cap) res by
        have := Kd.R_take z3 (m := ii) (by omega)
        rwa [z2, hy] at this)
      have HZB := Aside0.mk z4
      have HZK := Aside0.mk (keep_cells (List.replicate (l.length - ii) (.int .i64 0)) ii wr HK.out)
      have hii0 : (0 : Int) ≤ (ii : Int) := by omega
      have hii1 : (ii : Int) ≤ (l.length : Int) := by omega
      have hii2 : (ii : Int) ≤ (cap : Int) := by omega
      clear z1 z2 z3 z4 hy HR HB HK HY1 HY2
      subst hrl
      go_wp2_with (simp only [hcl])
      go_ret
      exact ⟨rfl, HZ.out, HZB.out, HZK.out⟩
set_option maxHeartbeats 800000 in
set_option maxRecDepth 100000 in
theorem without_any (x : Int) (A : Option Addr) (c : Nat) (l : List Int) (w : World) (hC : Kd.C (Kd.int .i64) w A l.length l) (hx : 0 ≤ idxL x l 0) (hn : l.length ≤ 4096) :
    Calls Try.prog 87 #[.slice A l.length c, .int .i64 x] w fun e W' => ∃ v, e = .returned v ∧ Kd.R (Kd.int .i64) 3 W' w.heap.size (fun _ => True) v (l.filter fun y => y != x) ∧ Below w.heap.size w W' := by
  have hp : 0 < l.length := by
    rcases Nat.eq_zero_or_pos l.length with h | h
    · rw [List.eq_nil_of_length_eq_zero h] at hx
      rw [idxL] at hx
      omega
    · exact h
  have hb1 : Below w.heap.size w (w.alloc (.cells #[.int .i64 x] 3)) := (Below.refl _ _).alloc (Nat.le_refl _) _
  have hW : (w.alloc (.cells #[.int .i64 x] 3)).heap[w.heap.size]? = some (.cells #[.int .i64 x] 3 (0, 0)) := by
    show (w.heap.push _)[w.heap.size]? = _
    simp
  obtain ⟨W1, hW1, BX, HB1⟩ : ∃ W1, w.alloc (.cells #[.int .i64 x] 3) = W1 ∧ W1.heap[w.heap.size]? = some (.cells #[.int .i64 x] 3 (0, 0)) ∧ Below w.heap.size w W1 := ⟨_, rfl, hW, hb1⟩
  have hcl := cloneI_any A c l W1 (Kd.C_below hC HB1) hp hn
  have HW1 := Aside0.mk hW1
  have HBX := Aside0.mk BX
  have HB := Aside0.mk HB1
  clear hb1 hW hW1 BX HB1 hC
  go_enter Try.func87, Try.ntmps87
  go_upto_region 1 with fail
  rw [HW1.out]
  go_wp2_with (first
    | (go_at_call 113; refine hcl.mono ?_; rintro e w2 ⟨v, rfl, hR, hb⟩; clear hcl; obtain ⟨b, cap, ev, hb0, -, -, -⟩ := Kd.R_form hR hp; subst ev; have hbx := blk_below HBX.out hb; have hdel := delW_any x w.heap.size b cap w.heap.size l w2 ((blk_cell hbx 0).trans rfl) (by have := blk_lt HBX.out; omega) (Kd.R_lower hR HB.out.size) hx hn; have HB2 := Aside0.mk (HB.out.trans (hb.mono HB.out.size)); have HLE := Aside0.mk (Nat.le_trans HB.out.size hb0); clear hR hb hb0 hbx)
    | (go_at_call 118; refine hdel.mono ?_; rintro e w3 ⟨rfl, hR3, hb3, -⟩; clear hdel))
  go_ret
  exact ⟨_, rfl, hR3, HB2.out.trans (hb3.mono HLE.out)⟩

/-! ### impl_isTautology: function 88 -/
/-- a literal and its opposite -/
def tautL (l : List Int) : Bool := l.any fun x => decide (0 ≤ idxL (wrap64 (-x)) l 0)
set_option maxHeartbeats 4000000 in
theorem isTautology_fn (x : Int) (B : Nat) (A : Option Addr) (c : Nat) (l : List Int) (W : World) (hB : W.cell? ⟨B, 0, none⟩ = some (.slice A l.length c)) (hl : Kd.C (Kd.int .i64) W A l.length l) :
    Calls Try.prog 120 #[.int .i64 x, .pointer (some ⟨B, 0, none⟩)] W fun e W' => e = .returned (.bool (decide (0 ≤ idxL (wrap64 (-x)) l 0))) ∧ Below W.heap.size W W' := by
  have hcall := contains_any (wrap64 (-x)) A c l W hl
  generalize decide (0 ≤ idxL (wrap64 (-x)) l 0) = b at hcall ⊢
  clear hl
  go_enter Try.func120, Try.ntmps120
  go_wp2_with (go_at_call 84; refine hcall.mono ?_; rintro e w' ⟨rfl, rfl⟩)
  go_ret
  exact ⟨rfl, Below.refl _ _⟩
def impl_isTautology.f (l0 : List Int) : Option Bool := some (tautL l0)
set_option maxHeartbeats 4000000 in
set_option maxRecDepth 100000 in
theorem impl_isTautology.calls (A0 : Option Addr) (c0 : Nat) (l0 : List Int) (r : Bool) (w : World) (hr0 : Kd.C (Kd.int .i64) w A0 l0.length l0) (hc0 : l0.length ≤ c0) (h : impl_isTautology.f l0 = some r) :
    Calls Try.prog 88 #[.slice A0 l0.length c0] w fun e w' => e = .returned (.bool r) ∧ Below w.heap.size w w' := by
  obtain rfl : tautL l0 = r := Option.some.inj h
  clear h
  unfold tautL
  have hbox : (w.alloc (.cells #[.slice A0 l0.length c0] 37)).cell? ⟨w.heap.size, 0, none⟩ = some (.slice A0 l0.length c0) := by simp
  have hB0 : Below w.heap.size w (w.alloc (.cells #[.slice A0 l0.length c0] 37)) := (Below.refl _ _).alloc (Nat.le_refl _) _
  have hcon := anyIntL (fun x => decide (0 ≤ idxL (wrap64 (-x)) l0 0)) 120 #[.pointer (some ⟨w.heap.size, 0, none⟩)] (enters_of Try.func120 (by kernel_rfl) rfl) A0 l0 c0 (w.alloc (.cells #[.slice A0 l0.length c0] 37)) (Kd.C_below hr0 hB0)
    (fun x W hb => isTautology_fn _ _ _ _ _ _ ((hb.cell (p := ⟨w.heap.size, 0, none⟩) (by simp)).trans hbox) (Kd.C_below (Kd.C_below hr0 hB0) hb))
  generalize (l0.any fun x => decide (0 ≤ idxL (wrap64 (-x)) l0 0)) = b at hcon ⊢
  clear hbox hr0
  go_enter Try.func88, Try.ntmps88
  go_wp2_with (go_at_call 103; refine hcon.mono ?_; rintro e w' ⟨rfl, hb⟩)
  go_ret
  exact ⟨rfl, (hB0.trans (hb.mono hB0.size))⟩

end Go.Proofs.Ytelfahcjeldliaa.PFnExactResolve
