/- WRITTEN BY A PROGRAM OF THIS SESSION (wip/xprint) OVER THE KIT's PRINT, FOR THIS CLAIM: for Go functions that the law reaches, one Lean function each and the proof that Go's call comes to its answer. No conditions but those that each theorem names. -/
import Derived.Test.YtelfahcjeldliaaPFnExactLeastModelx0
import Derived.Test.YtelfahcjeldliaaPFnExactLeastModelx5
namespace Go.Proofs.Ytelfahcjeldliaa.PFnExactLeastModel
open Go.RowKit Go.Proofs.YtelfahcjeldliaaW.PrintWords Go.Proofs.YtelfahcjeldliaaW.PrintLast Go.Proofs.YtelfahcjeldliaaW.PrintMore
attribute [local go_sem] max2_int min2_int max_two min_two max_three min_three max_four min_four   -- for this text's walks alone
set_option linter.unusedVariables false
set_option linter.unusedSimpArgs false

/-! ### impl_state_solve: function 107 -/
section
variable {w0 W W2 : World} {g b b2 : Nat} {vars : Int} {A : Option Addr} {n c cv : Nat} {vals : List Int}
/-- .. where another block alone has been written -/
theorem ST.keep (h : ST w0 W g b vars A n c cv vals) (hk : KeepBut W W2 b2 none) (hB : Below w0.heap.size w0 W2) (h1 : b2 ≠ g) (h2 : b2 ≠ b) : ST w0 W2 g b vars A n c cv vals :=
  ⟨hB, h.old, (hk.2 g h.glt (fun e => h1 e.symm) (by simp)).trans h.blk, Kd.R_mono (Kd.R_keep (Kd.R_tight rfl h.own) hk (fun k hk' e => h2 (by simpa [Value.ownBlock, e] using hk'))) (fun _ _ => trivial)⟩
theorem keep_then (h : KeepBut W W2 b none) {W3 : World} (k : KeepBut W2 W3 b2 none) (hb : b2 = b ∨ W.heap.size ≤ b2) : KeepBut W W3 b none :=
  ⟨Nat.le_trans h.1 k.1, fun i hi hne hr => (k.2 i (Nat.lt_of_lt_of_le hi h.1) (by rcases hb with rfl | hb; exact hne; omega) hr).trans (h.2 i hi hne hr)⟩
theorem keep_below (h : KeepBut W W2 b none) {W3 : World} (k : Below W2.heap.size W2 W3) : KeepBut W W3 b none :=
  ⟨Nat.le_trans h.1 k.size, fun i hi hne hr => (k.block i (Nat.lt_of_lt_of_le hi h.1)).trans (h.2 i hi hne hr)⟩
theorem keep_set (h : KeepBut W W2 b none) (hb : b2 = b ∨ W.heap.size ≤ b2) (j : Nat) (v : Value) : KeepBut W (W2.setCell ⟨b2, j, none⟩ v) b none :=
  keep_then h (KeepBut.set_ (KeepBut.refl W2 b2 none) j v) hb
end
/-- the values behind what follows, or none: the least of them -/
def solveL (cs : List (List Int)) : Nat → List Int → Option (Option (List Int))
  | 0, _ => none
  | k + 1, vals => (propL cs k vals []).bind fun t => if 0 ≤ t.2.2 then some none else if openL t.1 = 0 then some (some t.1) else (solveL cs k (setL t.1 (-(openL t.1)))).bind fun o => if o.isSome = true then some o else solveL cs k (setL t.1 (openL t.1))
theorem openL_range (vals : List Int) (hp : 0 < vals.length) : 0 ≤ openL vals ∧ openL vals < vals.length := by
  have := idxL_range 0 (vals.drop 1) 0
  unfold openL
  rw [List.length_drop] at this
  omega
theorem propL_length (cs : List (List Int)) : ∀ (k : Nat) (vals list v2 li : List Int) (a : Int), propL cs k vals list = some (v2, li, a) → v2.length = vals.length
  | 0, _, _, _, _, _, h => by simp [propL] at h
  | k + 1, vals, list, v2, li, a, h => by
    rw [propL] at h
    generalize scanL vals cs 0 0 = q at h
    obtain ⟨o, next⟩ := q
    cases o with
    | some i =>
      simp only [Option.some.injEq, Prod.mk.injEq] at h
      rw [h.1]
    | none =>
      simp only at h
      by_cases h0 : next = 0
      · rw [if_pos h0] at h
        simp only [Option.some.injEq, Prod.mk.injEq] at h
        rw [h.1]
      · rw [if_neg h0] at h
        by_cases h1 : list.length < 17592186044416
        · rw [if_pos h1] at h
          rw [propL_length cs k _ _ v2 li a h, setL_length]
        · rw [if_neg h1] at h
          cases h
theorem set_st (g b : Nat) (vars : Int) (A : Option Addr) (n c cv : Nat) (vals : List Int) (x : Int) (w0 w : World) (hS : ST w0 w g b vars A n c cv vals) (hx : x.natAbs < vals.length) (hn : vals.length ≤ 4096) :
    Calls Try.prog 70 #[.pointer (some ⟨g, 0, none⟩), .int .i64 x] w fun e W' => e = .returned (.tuple #[]) ∧ W' = w.setCell ⟨b, x.natAbs, none⟩ (.int .i64 (if x < 0 then -1 else 1)) := by
  obtain ⟨hcx, hfx⟩ := Kd.R_celln 0 hS.own (x.natAbs : Int) (by omega) (by omega)
  rw [Int.toNat_natCast] at hcx hfx
  exact set_any g b vals.length cv x _ w hS.cells.2.2 hx hn hcx hfx
theorem split_e {e : Ending} {a : Prop} {u : Value} {p q : List Int → Prop} {F : Nat → Value} {S : List Int → Nat → Nat → Nat → Prop} (h : (a ∧ e = .returned u) ∨ ∃ v g2 b2 cv2, p v ∧ q v ∧ e = .returned (F g2) ∧ S v g2 b2 cv2) :
    ∃ ve, e = .returned ve ∧ ((a ∧ ve = u) ∨ ∃ v g2 b2 cv2, p v ∧ q v ∧ ve = F g2 ∧ S v g2 b2 cv2) := by
  rcases h with ⟨h1, h2⟩ | ⟨v, g2, b2, cv2, h1, h2, h3, h4⟩
  · exact ⟨u, h2, .inl ⟨h1, rfl⟩⟩
  · exact ⟨F g2, h3, .inr ⟨v, g2, b2, cv2, h1, h2, rfl, h4⟩⟩
set_option maxHeartbeats 8000000 in
set_option maxRecDepth 100000 in
theorem solve_any (vars : Int) (A : Option Addr) (c : Nat) (cs : List (List Int)) (w0 : World) (N : Nat) (hC : Kd.C (Kd.slice 3 (Kd.int .i64)) w0 A cs.length cs) (hN : N ≤ 4096) (hp : 0 < N) (hfit : (cs.all fun c => fitL N c) = true) :
    ∀ (k : Nat) (g b cv : Nat) (vals : List Int) (r : Option (List Int)) (w : World), vals.length = N → ST w0 w g b vars A cs.length c cv vals → solveL cs k vals = some r →
      Calls Try.prog 107 #[.pointer (some ⟨g, 0, none⟩)] w fun e W' => KeepBut w W' b none ∧ Below w0.heap.size w0 W' ∧ ((r = none ∧ e = .returned (.pointer none)) ∨ ∃ v g2 b2 cv2, r = some v ∧ v.length = N ∧ e = .returned (.pointer (some ⟨g2, 0, none⟩)) ∧ ST w0 W' g2 b2 vars A cs.length c cv2 v) := by
  intro k
  induction k with
  | zero => intro g b cv vals r w hv hS h; simp [solveL] at h
  | succ k ih =>
    intro g b cv vals r w hv hS h
    rw [solveL] at h
    obtain ⟨⟨va, li, at_⟩, hpr, h⟩ := Option.bind_eq_some_iff.1 h
    simp only at h
    have hprop := propagate_any k g b vars A c cv cs vals va li at_ w0 w hS hC (by rw [hv]; exact hfit) (by omega) (by omega) hpr
    have HLT := Aside0.mk (And.intro hS.glt hS.blt)
    have IH := Aside0.mk ih
    clear hS ih
    by_cases h0 : 0 ≤ at_
    · rw [if_pos h0] at h
      obtain rfl := Option.some.inj h
      clear h
      go_enter Try.func107, Try.ntmps107
      go_wp2_with (go_at_call 71; refine hprop.mono ?_; rintro e w1 ⟨v, rfl, hR, hS1, hl1, hk1, hb1⟩)
      go_ret
      exact ⟨hk1, hb1, .inl ⟨by first | rfl | trivial, rfl⟩⟩
    · rw [if_neg h0] at h
      have hop := fun V (hV : ST w0 V g b vars A cs.length c cv va) (hl : va.length = N) => open_any g va (some ⟨b, 0, none⟩) cv V hV.cells.2.2 hV.reads (by omega) (by omega) (Kd.R_reads' hV.own).2.1
      have hrg := openL_range va
      generalize openL va = v at h hop hrg
      by_cases h1 : v = 0
      · rw [if_pos h1] at h
        obtain rfl := Option.some.inj h
        subst h1
        clear h
        go_enter Try.func107, Try.ntmps107
        go_wp2_with (first
          | (go_at_call 71; refine hprop.mono ?_; rintro e w1 ⟨vl, rfl, hR, hS1, hl1, hk1, hb1⟩; have hop1 := hop w1 hS1 (by omega); clear hop)
          | (go_at_call 109; refine hop1.mono ?_; rintro e w2 ⟨rfl, hq⟩; have hq2 := hq.symm; clear hq hop1; subst hq2))
        go_ret
        exact ⟨hk1, hb1, .inr ⟨va, g, b, cv, rfl, by omega, rfl, hS1⟩⟩
      · rw [if_neg h1] at h
        obtain ⟨o, ho, h⟩ := Option.bind_eq_some_iff.1 h
        have h12 : (v == 0) = false := beq_eq_false_iff_ne.mpr h1
        have hst2 := fun (g2 b2 cv2 : Nat) V (hV : ST w0 V g2 b2 vars A cs.length c cv2 va) (hl : va.length = N) => stclone_any g2 b2 vars A cs.length c cv2 va w0 V hV (by omega) (by omega)
        have hset := fun (x : Int) (hx : x.natAbs < N) (g2 b2 cv2 : Nat) V (hV : ST w0 V g2 b2 vars A cs.length c cv2 va) (hl : va.length = N) => set_st g2 b2 vars A cs.length c cv2 va x w0 V hV (by omega) (by omega)
        have hl1 : va.length = N := by
          rw [← hv]
          exact propL_length cs k vals [] va li at_ hpr
        have hr1 := hrg (by omega)
        have ew : IntKind.i64.wrap (-v) = -v := IntWalk.i64_in _ (by omega)
        have HOP := Aside0.mk hop
        have HST := Aside0.mk hst2
        have HSET := Aside0.mk hset
        have HO := Aside0.mk ho
        clear hop hst2 hset ho hrg hpr
        cases o with
        | some f =>
          simp only [Option.isSome_some, if_true, Option.some.injEq] at h
          subst h
          go_enter Try.func107, Try.ntmps107
          go_wp2_with (first
            | (go_at_call 71; refine hprop.mono ?_; rintro e w1 ⟨vl, rfl, hR, hS1, -, hk1, hb1⟩; have hop1 := HOP.out w1 hS1 hl1; clear HOP hprop hR)
            | (go_at_call 109; refine hop1.mono ?_; rintro e w2 ⟨rfl, hq⟩; have hq2 := hq.symm; clear hq hop1; subst hq2; have hcl := HST.out g b cv _ hS1 hl1; clear HST)
            | (go_at_call 110; refine hcl.mono ?_; rintro e w3 ⟨g2, b2, cv2, rfl, hS2, hb2, hg2, hbl⟩; clear hcl; have hse := HSET.out (-v) (by omega) g2 b2 cv2 w3 hS2 hl1)
            | (go_at_call 70; refine hse.mono ?_; rintro e w4 ⟨rfl, hq⟩; clear hse; have hS3 := hS2.set (-v); rw [← hq] at hS3; have hso := IH.out g2 b2 cv2 _ _ w4 (by rw [setL_length]; exact hl1) hS3 HO.out; have hk4 := keep_set (keep_below hk1 hbl) (b2 := b2) (.inr (Nat.le_trans hk1.1 hb2)) (-v).natAbs (.int .i64 (if -v < 0 then -1 else 1)); rw [← hq] at hk4; clear hq)
            | (go_at_call 107; refine hso.mono ?_; rintro e w5 ⟨hk5, hb5, hor⟩; clear hso; (rcases hor with ⟨hno, -⟩ | ⟨v5, g5, b5, cv5, hv5, hl5, rfl, hS5⟩; (exact absurd hno (by simp)))))
          go_ret
          exact ⟨keep_then hk4 hk5 (.inr (Nat.le_trans hk1.1 hb2)), hb5, .inr ⟨v5, g5, b5, cv5, hv5, hl5, rfl, hS5⟩⟩
        | none =>
          simp only [Option.isSome_none, Bool.false_eq_true, if_false] at h
          have HF := Aside0.mk h
          clear h
          go_enter Try.func107, Try.ntmps107
          go_wp2_with (first
            | (go_at_call 71; refine hprop.mono ?_; rintro e w1 ⟨vl, rfl, hR, hS1, -, hk1, hb1⟩; have hop1 := HOP.out w1 hS1 hl1; clear HOP hprop hR)
            | (go_at_call 109; refine hop1.mono ?_; rintro e w2 ⟨rfl, hq⟩; have hq2 := hq.symm; clear hq hop1; subst hq2; have hcl := HST.out g b cv _ hS1 hl1; clear HST)
            | (go_at_call 110; refine hcl.mono ?_; rintro e w3 ⟨g2, b2, cv2, rfl, hS2, hb2, hg2, hbl⟩; clear hcl; have hse := HSET.out (-v) (by omega) g2 b2 cv2 w3 hS2 hl1; have hS1b := hS1.below hbl)
            | (go_at_call 70; refine hse.mono ?_; rintro e w4 ⟨rfl, hq⟩; clear hse; have hS3 := hS2.set (-v); rw [← hq] at hS3; have hso := IH.out g2 b2 cv2 _ _ w4 (by rw [setL_length]; exact hl1) hS3 HO.out; have hk4 := keep_set (keep_below hk1 hbl) (b2 := b2) (.inr (Nat.le_trans hk1.1 hb2)) (-v).natAbs (.int .i64 (if -v < 0 then -1 else 1)); have hk34 := KeepBut.set_ (KeepBut.refl w3 b2 none) (-v).natAbs (.int .i64 (if -v < 0 then -1 else 1)); rw [← hq] at hk4 hk34; clear hq; have hS1c := hS1b.keep hk34 hS3.base (by have := hS1.glt; omega) (by have := hS1.blt; omega))
            | (go_at_call 107; refine hso.mono ?_; rintro e w5 ⟨hk5, hb5, hor⟩; clear hso; (rcases hor with ⟨-, rfl⟩ | ⟨v5, g5, b5, cv5, hv5, hl5, rfl, hS5⟩; rotate_left; (exact absurd hv5 (by simp))); have hS1d := hS1c.keep hk5 hb5 (by have := hS1.glt; omega) (by have := hS1.blt; omega); have hk6 := keep_then hk4 hk5 (.inr (Nat.le_trans hk1.1 hb2)); have hse2 := HSET.out v (by omega) g b cv w5 hS1d hl1)
            | (go_at_call 70; refine hse2.mono ?_; rintro e w6 ⟨rfl, hq⟩; clear hse2; have hS6 := hS1d.set v; rw [← hq] at hS6; have hk7 := keep_set hk6 (b2 := b) (.inl rfl) v.natAbs (.int .i64 (if v < 0 then -1 else 1)); rw [← hq] at hk7; have hso2 := IH.out g b cv _ _ w6 (by rw [setL_length]; exact hl1) hS6 HF.out; clear hq)
            | (go_at_call 107; refine hso2.mono ?_; rintro e w7 ⟨hk8, hb8, hor0⟩; clear hso2; obtain ⟨ve, rfl, hor⟩ := split_e hor0; clear hor0))
          rcases hor with ⟨hno, rfl⟩ | ⟨v5, g5, b5, cv5, hv5, hl5, rfl, hS5⟩
          · go_ret
            exact ⟨keep_then hk7 hk8 (.inl rfl), hb8, .inl ⟨hno, rfl⟩⟩
          · go_ret
            exact ⟨keep_then hk7 hk8 (.inl rfl), hb8, .inr ⟨v5, g5, b5, cv5, hv5, hl5, rfl, hS5⟩⟩

/-! ### impl_leastModel: function 75 -/
/-- the values of a solved state, without the first -/
def outB (v : List Int) : List Bool := (v.drop 1).map fun x => x == 1
def impl_leastModel.f (k : Nat) (a0_0 : Int) (l0_1 : List (List Int)) : Option (List Bool × Bool) :=
  if decide (0 ≤ a0_0) && decide (a0_0 ≤ 4000) && (l0_1.all fun c => fitL (a0_0 + 1).toNat c) then
    (solveL l0_1 k (List.replicate (a0_0 + 1).toNat 0)).bind fun o => some (match o with
      | none => ([], false)
      | some v => (outB v, true))
  else none
theorem solveL_mono (cs : List (List Int)) : ∀ (k : Nat) (vals : List Int), LeO (solveL cs k vals) (solveL cs (k + 1) vals)
  | 0, _ => fun r h => by simp [solveL] at h
  | k + 1, vals => by
    intro r h
    rw [solveL] at h ⊢
    obtain ⟨t, ht, h⟩ := Option.bind_eq_some_iff.1 h
    refine Option.bind_eq_some_iff.2 ⟨t, propL_mono cs k _ _ t ht, ?_⟩
    by_cases h0 : 0 ≤ t.2.2
    · rw [if_pos h0] at h ⊢
      exact h
    · rw [if_neg h0] at h ⊢
      by_cases h1 : openL t.1 = 0
      · rw [if_pos h1] at h ⊢
        exact h
      · rw [if_neg h1] at h ⊢
        obtain ⟨o, ho, h⟩ := Option.bind_eq_some_iff.1 h
        refine Option.bind_eq_some_iff.2 ⟨o, solveL_mono cs k _ o ho, ?_⟩
        by_cases h2 : o.isSome = true
        · rw [if_pos h2] at h ⊢
          exact h
        · rw [if_neg h2] at h ⊢
          exact solveL_mono cs k _ r h
theorem impl_leastModel.mono : ∀ a0 a1 k, LeO (impl_leastModel.f k a0 a1) (impl_leastModel.f (k + 1) a0 a1) := by
  intro a0 a1 k r h
  unfold impl_leastModel.f at h ⊢
  by_cases hf : (decide (0 ≤ a0) && decide (a0 ≤ 4000) && (a1.all fun c => fitL (a0 + 1).toNat c)) = true
  · rw [if_pos hf] at h ⊢
    obtain ⟨o, ho, h⟩ := Option.bind_eq_some_iff.1 h
    exact Option.bind_eq_some_iff.2 ⟨o, solveL_mono a1 k _ o ho, h⟩
  · rw [if_neg hf] at h
    cases h
set_option maxHeartbeats 8000000 in
set_option maxRecDepth 100000 in
theorem impl_leastModel.calls (k : Nat) (a0_0 : Int) (A0_1 : Option Addr) (c0_1 : Nat) (l0_1 : List (List Int)) (r1 : List Bool) (r2 : Bool) (w : World) (hr0_1 : Kd.C (Kd.slice 3 (Kd.int .i64)) w A0_1 l0_1.length l0_1) (hc0_1 : l0_1.length ≤ c0_1) (h : impl_leastModel.f k a0_0 l0_1 = some (r1, r2)) :
    Calls Try.prog 75 #[.agg #[.int .i64 a0_0, .slice A0_1 l0_1.length c0_1]] w fun e w' => ∃ v0_ : Value, e = .returned (.tuple #[v0_, .bool r2]) ∧ Kd.R Kd.bool 4 w' w.heap.size (fun _ => True) v0_ r1 ∧ Below w.heap.size w w' := by
  unfold impl_leastModel.f at h
  by_cases hf : (decide (0 ≤ a0_0) && decide (a0_0 ≤ 4000) && (l0_1.all fun c => fitL (a0_0 + 1).toNat c)) = true
  · rw [if_pos hf] at h
    simp only [Bool.and_eq_true, decide_eq_true_eq] at hf
    obtain ⟨⟨h0, h1⟩, hf2⟩ := hf
    have hu_Cnf := Try.underlying30
    have hB1 : Below w.heap.size w (w.alloc (.cells #[.int .i64 a0_0, .slice A0_1 l0_1.length c0_1] 30)) := (Below.refl _ _).alloc (Nat.le_refl _) _
    have hnew := newState_any a0_0 A0_1 l0_1.length c0_1 (w.alloc (.cells #[.int .i64 a0_0, .slice A0_1 l0_1.length c0_1] 30)) h0 h1
    have hW : (w.alloc (.cells #[.int .i64 a0_0, .slice A0_1 l0_1.length c0_1] 30)).heap[w.heap.size]? = some (.cells #[.int .i64 a0_0, .slice A0_1 l0_1.length c0_1] 30 (0, 0)) := by
      show (w.heap.push _)[w.heap.size]? = _
      simp
    obtain ⟨o, ho, h⟩ := Option.bind_eq_some_iff.1 h
    have hsolve := solve_any a0_0 A0_1 c0_1 l0_1 (w.alloc (.cells #[.int .i64 a0_0, .slice A0_1 l0_1.length c0_1] 30)) (a0_0 + 1).toNat (Kd.C_below hr0_1 hB1) (by omega) (by omega) hf2 k
    obtain ⟨vs, hvs⟩ : ∃ vs, List.replicate (a0_0 + 1).toNat (0 : Int) = vs := ⟨_, rfl⟩
    have hvl : vs.length = (a0_0 + 1).toNat := by rw [← hvs]; simp
    rw [hvs] at ho hnew
    clear hvs hr0_1 hf2
    obtain ⟨W1, hW1, BX, HB1⟩ : ∃ W1, w.alloc (.cells #[.int .i64 a0_0, .slice A0_1 l0_1.length c0_1] 30) = W1 ∧ W1.heap[w.heap.size]? = some (.cells #[.int .i64 a0_0, .slice A0_1 l0_1.length c0_1] 30 (0, 0)) ∧ Below w.heap.size w W1 := ⟨_, rfl, hW, hB1⟩
    rw [hW1] at hnew hsolve
    have HW1 := Aside0.mk hW1
    have HB1' := Aside0.mk HB1
    have HBX := Aside0.mk BX
    have hx0 : W1.cell? ⟨w.heap.size, 0, none⟩ = some (.int .i64 a0_0) := (blk_cell BX 0).trans rfl
    have hx1 : W1.cell? ⟨w.heap.size, 1, none⟩ = some (.slice A0_1 l0_1.length c0_1) := (blk_cell BX 1).trans rfl
    have HSV := Aside0.mk hsolve
    clear hW hB1 hW1 BX HB1 hsolve
    cases o with
    | none =>
      simp only [Option.some.injEq, Prod.mk.injEq] at h
      obtain ⟨rfl, rfl⟩ := h
      go_enter Try.func75, Try.ntmps75
      go_upto_region 1 with fail
      rw [HW1.out]
      go_wp2_with (first
        | (go_at_call 67; refine hnew.mono ?_; rintro e w2 ⟨g, b, cv, rfl, hS⟩; clear hnew; have hsv := HSV.out g b cv vs none w2 hvl hS ho)
        | (go_at_call 107; refine hsv.mono ?_; rintro e w3 ⟨hk3, hb3, hor⟩; clear hsv; (rcases hor with ⟨-, rfl⟩ | ⟨v5, g5, b5, cv5, hv5, hl5, rfl, hS5⟩; rotate_left; (exact absurd hv5 (by simp)))))
      go_ret2
      exact ⟨_, rfl, Kd.R_nil _ _ _ _ _, HB1'.out.trans (hb3.mono HB1'.out.size)⟩
    | some v =>
      simp only [Option.some.injEq, Prod.mk.injEq] at h
      obtain ⟨rfl, rfl⟩ := h
      go_enter Try.func75, Try.ntmps75
      go_upto_region 1 with fail
      rw [HW1.out]
      go_wp2_with (first
        | (go_at_call 67; refine hnew.mono ?_; rintro e w2 ⟨g, b, cv, rfl, hS⟩; clear hnew; have hsv := HSV.out g b cv vs (some v) w2 hvl hS ho)
        | (go_at_call 107; refine hsv.mono ?_; rintro e w3 ⟨hk3, hb3, hor⟩; clear hsv hx0 hx1; (rcases hor with ⟨hno, -⟩ | ⟨v5, g5, b5, cv5, hv5, hl5, rfl, hS5⟩; (exact absurd hno (by simp))); obtain rfl := Option.some.inj hv5; have hx0 : w3.cell? ⟨w.heap.size, 0, none⟩ = some (.int .i64 a0_0) := (hb3.cell (blk_lt HBX.out)).trans ((blk_cell HBX.out 0).trans rfl))
        | ((with_reducible refine gate_dst (N := 14) rfl ?_); refine Kd.R_make Kd.bool _ 4 rfl (N := 14) rfl 47 _ _ rfl (a0_0 : Int) rfl rfl Try.underlying47 (.bool false) 1 info4 rfl (by decide) (by omega) false (ok := fun k_ => w3.heap.size ≤ k_) (okp := fun _ => False) rfl (fun _ hk => hk.elim) (Nat.le_refl _) (by omega) (by omega) (Below.refl _ _) (Nat.le_refl _) ?_; intro v1 w4 ho4 hb4 hg_ hnew_; clear hg_ hnew_; have hS6 := hS5.below hb4; have hb6 := hb3.trans (hb4.mono hb3.size); have HLT := Aside0.mk (And.intro hS5.glt (And.intro hS5.blt hb3.size)); clear hS5 hb3 hb4 hx0; obtain ⟨Ao, co, eo⟩ := Kd.R_slice ho4; subst eo))
      have hlv : v.length = (a0_0 + 1).toNat := hl5
      have hlo : (outB v).length = a0_0.toNat := by unfold outB; rw [List.length_map, List.length_drop]; omega
      have hlr : (List.replicate a0_0.toNat false).length = a0_0.toNat := by simp
      have HLV := Aside0.mk hlv
      have HLO := Aside0.mk hlo
      have H5 := Aside0.mk hS6
      have H6 := Aside0.mk hb6
      rw [hlr] at ho4
      have H4 := Aside0.mk ho4
      clear hlv hlo hS6 hb6 ho4 hlr
      go_loopg [17] a0_0.toNat (fun gg v17 wr => ∃ (kk : Nat) (ys : List Bool), v17 = .int .i64 kk ∧ kk ≤ a0_0.toNat ∧ a0_0.toNat - kk ≤ gg ∧ ys.length = a0_0.toNat ∧ Aside0 (∀ j, j < kk → ys[j]? = (outB v)[j]?) ∧ Aside0 (Kd.R Kd.bool 4 wr w3.heap.size (fun k_ => w3.heap.size ≤ k_) (.slice Ao a0_0.toNat co) ys) ∧ Aside0 (ST W1 wr g5 b5 a0_0 A0_1 l0_1.length c0_1 cv5 v) ∧ Aside0 (Below W1.heap.size W1 wr))
      case atStart => exact ⟨0, _, rfl, Nat.zero_le _, by omega, by simp, ⟨fun j hj => absurd hj (Nat.not_lt_zero _)⟩, H4, H5, H6⟩
      case round =>
        clear H4 H5 H6
        obtain ⟨kk, ys, rfl, hk, hg, hly, HY, HO, HS, HB⟩ := hrel
        by_cases hlt : kk < a0_0.toNat
        · have hltz : (kk : Int) < (a0_0.toNat : Int) := by omega
          have h0z : (0 : Int) ≤ (kk : Int) := by omega
          have ew : IntKind.i64.wrap ((kk : Int) + 1) = (kk : Int) + 1 := IntWalk.i64_in _ (by omega)
          obtain ⟨hs0, hs1, hs2⟩ := HS.out.cells
          obtain ⟨ad, ea, hx⟩ := Kd.at_int HS.out.reads ((kk : Int) + 1) (by omega) (by have := HLV.out; omega)
          cases ea
          rw [show ((kk : Int) + 1).toNat = kk + 1 by omega, add_plain] at hx
          have p0 : 0 ≤ (kk : Int) + 1 := by omega
          have p1 : (kk : Int) + 1 < (v.length : Int) := by have := HLV.out; omega
          have hpos : 0 < ys.length := by omega
          rw [← hly] at HO
          obtain ⟨gv, cap, eo, hgb, hgl, cells, hcells⟩ := Kd.R_form HO.out hpos
          cases eo
          have hHO := HO.out
          have hput := Kd.R_putg hHO (kk : Int) (rd v ((kk : Int) + 1) == 1)
          obtain ⟨hcx, hfx⟩ := Kd.R_celln false hHO (kk : Int) (by omega) (by omega)
          rw [Int.toNat_natCast] at hcx hfx hput
          have hkb := KeepBut.set_ (KeepBut.refl wr gv none) kk (.bool (rd v ((kk : Int) + 1) == 1))
          have hbw := below_set (j := kk) (v := .bool (rd v ((kk : Int) + 1) == 1)) HB.out (show W1.heap.size ≤ gv by have := HLT.out.2.2; omega)
          have hS7 := HS.out.keep hkb hbw (by have := HLT.out.1; omega) (by have := HLT.out.2.1; omega)
          have n0_ := Aside0.mk hput.1
          have n1_ := Aside0.mk hS7
          have n2_ := Aside0.mk hbw
          have n3_ : Aside0 (∀ j, j < kk + 1 → (ys.set kk (rd v ((kk : Int) + 1) == 1))[j]? = (outB v)[j]?) := ⟨fun j hj => by
            by_cases hjk : j = kk
            · subst hjk
              rw [List.getElem?_set_self (by omega)]
              unfold outB
              rw [List.getElem?_map, List.getElem?_drop, show 1 + j = j + 1 by omega, List.getElem?_eq_getElem (by have := HLV.out; omega)]
              have : rd v ((j : Int) + 1) = v[j + 1]'(by have := HLV.out; omega) := by unfold rd; rw [show ((j : Int) + 1).toNat = j + 1 by omega]; simp [List.getD, (by have := HLV.out; omega : j + 1 < v.length)]
              rw [this]
              rfl
            · rw [List.getElem?_set_ne (fun e => hjk e.symm)]
              exact HY.out j (by omega)⟩
          have hlys : (ys.set kk (rd v ((kk : Int) + 1) == 1)).length = ys.length := by simp
          clear hHO hput hkb hbw hS7 hcells hgb hgl HO HS HB HY
          go_wp2
          go_roundg (gk - 1)
          case measure => omega
          case rel => exact ⟨kk + 1, _, rfl, by omega, by omega, by rw [hlys]; exact hly, n3_, by rw [← hly]; exact n0_, n1_, n2_⟩
        · have hkk : kk = a0_0.toNat := by omega
          have hys : ys = outB v := by
            apply List.ext_getElem?
            intro j
            by_cases hj : j < kk
            · exact HY.out j hj
            · rw [List.getElem?_eq_none (by omega), List.getElem?_eq_none (by have := HLO.out; omega)]
          subst hys
          go_wp2
          go_ret2
          exact ⟨_, rfl, Kd.R_lower (Kd.R_mono HO.out (fun _ _ => trivial)) (Nat.le_trans HB1'.out.size HLT.out.2.2), HB1'.out.trans (HB.out.mono HB1'.out.size)⟩
  · rw [if_neg hf] at h
    cases h

/-! ### impl_LeastModel: function 32 -/
def impl_LeastModel.f (k : Nat) (a0_0 : Int) (l0_1 : List (List Int)) : Option (List Bool × Int) := (impl_isCnf.f a0_0 l0_1).bind fun t205 => (if t205 = true then ((impl_leastModel.f k a0_0 l0_1).bind fun bt206 => (if bt206.2 = true then (some (bt206.1, 0)) else (some (([] : List Bool), 6)))) else (some (([] : List Bool), 1)))
theorem impl_LeastModel.mono : ∀ a0 a1 k, LeO (impl_LeastModel.f k a0 a1) (impl_LeastModel.f (k + 1) a0 a1) := by
  intro a0 a1 k
  unfold impl_LeastModel.f
  repeat' first
      | (with_reducible exact impl_leastModel.mono _ _ _)
      | (with_reducible exact LeO.refl _)
      | (with_reducible exact LeO.none _)
      | (with_reducible refine LeO.ite ?_ ?_)
      | (with_reducible refine LeO.bind ?_ (fun _ => ?_))
      | exact impl_leastModel.mono _ _ _
      | exact LeO.none _
      | refine LeO.ite ?_ ?_
      | refine LeO.bind ?_ (fun _ => ?_)
set_option maxHeartbeats 8000000 in
set_option maxRecDepth 100000 in
theorem impl_LeastModel.calls (k : Nat) (a0_0 : Int) (A0_1 : Option Addr) (c0_1 : Nat) (l0_1 : List (List Int)) (r1 : List Bool) (r2 : Int) (w : World) (hr0_1 : Kd.C (Kd.slice 3 (Kd.int .i64)) w A0_1 l0_1.length l0_1) (hc0_1 : l0_1.length ≤ c0_1) (h : impl_LeastModel.f k a0_0 l0_1 = some (r1, r2)) :
    Calls Try.prog 32 #[.agg #[.int .i64 a0_0, .slice A0_1 l0_1.length c0_1]] w fun e w' => ∃ v0_ : Value, e = .returned (.tuple #[v0_, .int .i64 r2]) ∧ Kd.R Kd.bool 4 w' w.heap.size (fun _ => True) v0_ r1 ∧ Below w.heap.size w w' := by
  have hu30 := Try.underlying30
  have HR0_1 := Aside0.mk hr0_1
  have HC0_1 := Aside0.mk hc0_1
  clear hr0_1 hc0_1
  have HB := Aside0.mk (Below.refl w.heap.size w)
  have H : ((impl_isCnf.f a0_0 l0_1).bind fun t205 => (if t205 = true then ((impl_leastModel.f k a0_0 l0_1).bind fun bt206 => (if bt206.2 = true then (some (bt206.1, 0)) else (some (([] : List Bool), 6)))) else (some (([] : List Bool), 1)))) = some (r1, r2) := h
  clear h
  replace H := Option.bind_eq_some_iff.mp H
  obtain ⟨t205, A20, H⟩ := H
  replace H : (if t205 = true then ((impl_leastModel.f k a0_0 l0_1).bind fun bt206 => (if bt206.2 = true then (some (bt206.1, 0)) else (some (([] : List Bool), 6)))) else (some (([] : List Bool), 1))) = some (r1, r2) := H
  have A2 := Aside0.mk A20
  clear A20
  by_cases c3 : t205 = true
  · subst c3
    have H1 : ((impl_leastModel.f k a0_0 l0_1).bind fun bt206 => (if bt206.2 = true then (some (bt206.1, 0)) else (some (([] : List Bool), 6)))) = some (r1, r2) := by rw [if_pos rfl] at H; exact H
    clear H
    have H := H1
    clear H1
    replace H := Option.bind_eq_some_iff.mp H
    obtain ⟨⟨t206, t209⟩, A40, H⟩ := H
    replace H : (if t209 = true then (some (t206, 0)) else (some (([] : List Bool), 6))) = some (r1, r2) := H
    have A4 := Aside0.mk A40
    clear A40
    by_cases c5 : t209 = true
    · subst c5
      have H1 : (some (t206, 0)) = some (r1, r2) := by rw [if_pos rfl] at H; exact H
      clear H
      have H := H1
      clear H1
      simp only [Option.some.injEq, Prod.mk.injEq] at H
      obtain ⟨rfl, rfl⟩ := H
      go_enter Try.func32, Try.ntmps32
      go_wp2_with (first | ((with_reducible refine gate_dst (N := 1) rfl ?_); refine box_event ?hg (N := 1) ?hd (cs := #[.int .i64 a0_0, .slice A0_1 l0_1.length c0_1]) (t := 30) ?hr ?_; (case hd => rfl); (case hg => rfl); (case hr => first | (go_simp; done) | (go_simp; rfl)); intro gb204 hg w6 hbox hb; have n0_ := Aside0.mk (below_step (by repeat (first | (with_reducible first | exact HB.out | apply below_alloc | apply pw_below_drewN | apply below_drew1) | exact HB.out)) hb); have n1_ := Aside0.mk (hbox); have n2_ := Aside0.mk ((by rw [hg]; exact (below_size (by repeat (first | (with_reducible first | exact HB.out | apply below_alloc | apply pw_below_drewN | apply below_drew1) | exact HB.out))) : w.heap.size ≤ gb204)); have n3_ := Aside0.mk ((by rw [hg]; exact (below_size (by repeat (first | (with_reducible first | exact HB.out | apply below_alloc | apply pw_below_drewN | apply below_drew1) | exact HB.out))) : w.heap.size ≤ gb204)); clear HB; have HB := n0_; have BK204 := n1_; have GW204 := n2_; have GE204 := n3_; clear n0_ n1_ n2_ n3_; clear hb hbox hg; have hcz7_0 : w6.cell? ⟨gb204, 0, none⟩ = some (.int .i64 a0_0) := (blk_cell BK204.out 0).trans rfl; have hcz7_1 : w6.cell? ⟨gb204, 1, none⟩ = some (.slice A0_1 l0_1.length c0_1) := (blk_cell BK204.out 1).trans rfl; have hfz7_0 := blk_frozen BK204.out 0; have hfz7_1 := blk_frozen BK204.out 1) | ((with_reducible refine gate_callee (f := 54) rfl ?_); refine goesL_ (some 7) rfl rfl Try.func54 (by kernel_rfl) rfl #[.agg #[.int .i64 a0_0, .slice A0_1 l0_1.length c0_1]] rfl (by (try simp only [List.map_toArray, List.map_cons, List.map_nil]); first | done | rfl | (simp only [List.length_drop, List.length_take]; rfl)) ?_; (with_reducible refine (impl_isCnf.calls a0_0 _ _ l0_1 true _ ?side1 ?side2 A2.out).mono ?_); (case side1 => repeat (first | exact (Kd.C_below HR0_1.out HB.out) | (with_reducible refine Kd.C_alloc ?_ _) | (with_reducible refine Kd.C_drewN ?_ _) | (with_reducible refine Kd.C_drew ?_))); (case side2 => exact HC0_1.out); rintro e w8 ⟨rfl, hb⟩; refine ⟨_, rfl, ?_⟩; have n0_ := Aside0.mk (blk_below (g := gb204) (o := .cells #[.int .i64 a0_0, .slice A0_1 l0_1.length c0_1] 30 (0, 0)) (by (with_reducible repeat (first | refine blk_drewN ?_ _ | refine blk_drew ?_ | refine blk_alloc ?_ _)); exact BK204.out) hb); have n1_ := Aside0.mk (below_step (by repeat (first | (with_reducible first | exact HB.out | apply below_alloc | apply pw_below_drewN | apply below_drew1 | refine below_set ?_ GE204.out) | exact HB.out)) hb); clear BK204; clear HB; have BK204 := n0_; have HB := n1_; clear n0_ n1_; (try clear hb); (try clear hb2); (try clear hk); (try clear hi); have hcz9_0 : w8.cell? ⟨gb204, 0, none⟩ = some (.int .i64 a0_0) := (blk_cell BK204.out 0).trans rfl; have hcz9_1 : w8.cell? ⟨gb204, 1, none⟩ = some (.slice A0_1 l0_1.length c0_1) := (blk_cell BK204.out 1).trans rfl; have hfz9_0 := blk_frozen BK204.out 0; have hfz9_1 := blk_frozen BK204.out 1) | ((with_reducible refine gate_callee (f := 75) rfl ?_); refine goesL_ (some 11) rfl rfl Try.func75 (by kernel_rfl) rfl #[.agg #[.int .i64 a0_0, .slice A0_1 l0_1.length c0_1]] rfl (by (try simp only [List.map_toArray, List.map_cons, List.map_nil]); first | done | rfl | (simp only [List.length_drop, List.length_take]; rfl)) ?_; (with_reducible refine (impl_leastModel.calls k a0_0 _ _ l0_1 t206 true _ ?side1 ?side2 A4.out).mono ?_); (case side1 => repeat (first | exact (Kd.C_below HR0_1.out HB.out) | (with_reducible refine Kd.C_alloc ?_ _) | (with_reducible refine Kd.C_drewN ?_ _) | (with_reducible refine Kd.C_drew ?_))); (case side2 => exact HC0_1.out); rintro e w10 ⟨v207, rfl, ho0, hb⟩; refine ⟨_, rfl, ?_⟩; have n0_ := Aside0.mk (Kd.R_lower ho0 (below_size (by repeat (first | (with_reducible first | exact HB.out | apply below_alloc | apply pw_below_drewN | apply below_drew1 | refine below_set ?_ GE204.out) | exact HB.out)))); have n1_ := Aside0.mk (blk_below (g := gb204) (o := .cells #[.int .i64 a0_0, .slice A0_1 l0_1.length c0_1] 30 (0, 0)) (by (with_reducible repeat (first | refine blk_drewN ?_ _ | refine blk_drew ?_ | refine blk_alloc ?_ _)); exact BK204.out) hb); have n2_ := Aside0.mk (below_step (by repeat (first | (with_reducible first | exact HB.out | apply below_alloc | apply pw_below_drewN | apply below_drew1 | refine below_set ?_ GE204.out) | exact HB.out)) hb); clear BK204; clear HB; have HO208 := n0_; have BK204 := n1_; have HB := n2_; clear n0_ n1_ n2_; (try clear hb); (try clear hb2); (try clear hk); (try clear hi); (try clear ho0)))
      go_ret2
      exact ⟨_, by first | rfl | (simp [errW_none, errW_some] <;> rfl) | (simp [*, errW_none, errW_some] <;> rfl), by (with_reducible repeat (first | apply Kd.R_alloc | apply Kd.R_drewN | apply Kd.R_drew)); exact HO208.out, by repeat (first | (with_reducible first | exact HB.out | apply below_alloc | apply pw_below_drewN | apply below_drew1 | refine below_set ?_ GE204.out) | exact HB.out)⟩
    · replace c5 := Bool.eq_false_iff.mpr c5
      subst c5
      have H1 : (some (([] : List Bool), 6)) = some (r1, r2) := by rw [if_neg (show ¬ (false = true) by decide)] at H; exact H
      clear H
      have H := H1
      clear H1
      simp only [Option.some.injEq, Prod.mk.injEq] at H
      obtain ⟨rfl, rfl⟩ := H
      go_enter Try.func32, Try.ntmps32
      go_wp2_with (first | ((with_reducible refine gate_dst (N := 1) rfl ?_); refine box_event ?hg (N := 1) ?hd (cs := #[.int .i64 a0_0, .slice A0_1 l0_1.length c0_1]) (t := 30) ?hr ?_; (case hd => rfl); (case hg => rfl); (case hr => first | (go_simp; done) | (go_simp; rfl)); intro gb204 hg w11 hbox hb; have n0_ := Aside0.mk (below_step (by repeat (first | (with_reducible first | exact HB.out | apply below_alloc | apply pw_below_drewN | apply below_drew1) | exact HB.out)) hb); have n1_ := Aside0.mk (hbox); have n2_ := Aside0.mk ((by rw [hg]; exact (below_size (by repeat (first | (with_reducible first | exact HB.out | apply below_alloc | apply pw_below_drewN | apply below_drew1) | exact HB.out))) : w.heap.size ≤ gb204)); have n3_ := Aside0.mk ((by rw [hg]; exact (below_size (by repeat (first | (with_reducible first | exact HB.out | apply below_alloc | apply pw_below_drewN | apply below_drew1) | exact HB.out))) : w.heap.size ≤ gb204)); clear HB; have HB := n0_; have BK204 := n1_; have GW204 := n2_; have GE204 := n3_; clear n0_ n1_ n2_ n3_; clear hb hbox hg; have hcz12_0 : w11.cell? ⟨gb204, 0, none⟩ = some (.int .i64 a0_0) := (blk_cell BK204.out 0).trans rfl; have hcz12_1 : w11.cell? ⟨gb204, 1, none⟩ = some (.slice A0_1 l0_1.length c0_1) := (blk_cell BK204.out 1).trans rfl; have hfz12_0 := blk_frozen BK204.out 0; have hfz12_1 := blk_frozen BK204.out 1) | ((with_reducible refine gate_callee (f := 54) rfl ?_); refine goesL_ (some 7) rfl rfl Try.func54 (by kernel_rfl) rfl #[.agg #[.int .i64 a0_0, .slice A0_1 l0_1.length c0_1]] rfl (by (try simp only [List.map_toArray, List.map_cons, List.map_nil]); first | done | rfl | (simp only [List.length_drop, List.length_take]; rfl)) ?_; (with_reducible refine (impl_isCnf.calls a0_0 _ _ l0_1 true _ ?side1 ?side2 A2.out).mono ?_); (case side1 => repeat (first | exact (Kd.C_below HR0_1.out HB.out) | (with_reducible refine Kd.C_alloc ?_ _) | (with_reducible refine Kd.C_drewN ?_ _) | (with_reducible refine Kd.C_drew ?_))); (case side2 => exact HC0_1.out); rintro e w13 ⟨rfl, hb⟩; refine ⟨_, rfl, ?_⟩; have n0_ := Aside0.mk (blk_below (g := gb204) (o := .cells #[.int .i64 a0_0, .slice A0_1 l0_1.length c0_1] 30 (0, 0)) (by (with_reducible repeat (first | refine blk_drewN ?_ _ | refine blk_drew ?_ | refine blk_alloc ?_ _)); exact BK204.out) hb); have n1_ := Aside0.mk (below_step (by repeat (first | (with_reducible first | exact HB.out | apply below_alloc | apply pw_below_drewN | apply below_drew1 | refine below_set ?_ GE204.out) | exact HB.out)) hb); clear BK204; clear HB; have BK204 := n0_; have HB := n1_; clear n0_ n1_; (try clear hb); (try clear hb2); (try clear hk); (try clear hi); have hcz14_0 : w13.cell? ⟨gb204, 0, none⟩ = some (.int .i64 a0_0) := (blk_cell BK204.out 0).trans rfl; have hcz14_1 : w13.cell? ⟨gb204, 1, none⟩ = some (.slice A0_1 l0_1.length c0_1) := (blk_cell BK204.out 1).trans rfl; have hfz14_0 := blk_frozen BK204.out 0; have hfz14_1 := blk_frozen BK204.out 1) | ((with_reducible refine gate_callee (f := 75) rfl ?_); refine goesL_ (some 11) rfl rfl Try.func75 (by kernel_rfl) rfl #[.agg #[.int .i64 a0_0, .slice A0_1 l0_1.length c0_1]] rfl (by (try simp only [List.map_toArray, List.map_cons, List.map_nil]); first | done | rfl | (simp only [List.length_drop, List.length_take]; rfl)) ?_; (with_reducible refine (impl_leastModel.calls k a0_0 _ _ l0_1 t206 false _ ?side1 ?side2 A4.out).mono ?_); (case side1 => repeat (first | exact (Kd.C_below HR0_1.out HB.out) | (with_reducible refine Kd.C_alloc ?_ _) | (with_reducible refine Kd.C_drewN ?_ _) | (with_reducible refine Kd.C_drew ?_))); (case side2 => exact HC0_1.out); rintro e w15 ⟨v207, rfl, ho0, hb⟩; refine ⟨_, rfl, ?_⟩; have n0_ := Aside0.mk (Kd.R_lower ho0 (below_size (by repeat (first | (with_reducible first | exact HB.out | apply below_alloc | apply pw_below_drewN | apply below_drew1 | refine below_set ?_ GE204.out) | exact HB.out)))); have n1_ := Aside0.mk (blk_below (g := gb204) (o := .cells #[.int .i64 a0_0, .slice A0_1 l0_1.length c0_1] 30 (0, 0)) (by (with_reducible repeat (first | refine blk_drewN ?_ _ | refine blk_drew ?_ | refine blk_alloc ?_ _)); exact BK204.out) hb); have n2_ := Aside0.mk (below_step (by repeat (first | (with_reducible first | exact HB.out | apply below_alloc | apply pw_below_drewN | apply below_drew1 | refine below_set ?_ GE204.out) | exact HB.out)) hb); clear BK204; clear HB; have HO208 := n0_; have BK204 := n1_; have HB := n2_; clear n0_ n1_ n2_; (try clear hb); (try clear hb2); (try clear hk); (try clear hi); (try clear ho0)))
      go_ret2
      exact ⟨_, by first | rfl | (simp [errW_none, errW_some] <;> rfl) | (simp [*, errW_none, errW_some] <;> rfl), by first | exact Kd.R_nil _ _ _ _ _ | exact Kd.N_nil _ _ _ _ _ | exact Kd.V_nil _ _ _ _ _ | exact Kd.Q_nil _ _ _ _ _ | exact Kd.S_nil _ _ _ _ _, by repeat (first | (with_reducible first | exact HB.out | apply below_alloc | apply pw_below_drewN | apply below_drew1 | refine below_set ?_ GE204.out) | exact HB.out)⟩
  · replace c3 := Bool.eq_false_iff.mpr c3
    subst c3
    have H1 : (some (([] : List Bool), 1)) = some (r1, r2) := by rw [if_neg (show ¬ (false = true) by decide)] at H; exact H
    clear H
    have H := H1
    clear H1
    simp only [Option.some.injEq, Prod.mk.injEq] at H
    obtain ⟨rfl, rfl⟩ := H
    go_enter Try.func32, Try.ntmps32
    go_wp2_with (first | ((with_reducible refine gate_dst (N := 1) rfl ?_); refine box_event ?hg (N := 1) ?hd (cs := #[.int .i64 a0_0, .slice A0_1 l0_1.length c0_1]) (t := 30) ?hr ?_; (case hd => rfl); (case hg => rfl); (case hr => first | (go_simp; done) | (go_simp; rfl)); intro gb204 hg w16 hbox hb; have n0_ := Aside0.mk (below_step (by repeat (first | (with_reducible first | exact HB.out | apply below_alloc | apply pw_below_drewN | apply below_drew1) | exact HB.out)) hb); have n1_ := Aside0.mk (hbox); have n2_ := Aside0.mk ((by rw [hg]; exact (below_size (by repeat (first | (with_reducible first | exact HB.out | apply below_alloc | apply pw_below_drewN | apply below_drew1) | exact HB.out))) : w.heap.size ≤ gb204)); have n3_ := Aside0.mk ((by rw [hg]; exact (below_size (by repeat (first | (with_reducible first | exact HB.out | apply below_alloc | apply pw_below_drewN | apply below_drew1) | exact HB.out))) : w.heap.size ≤ gb204)); clear HB; have HB := n0_; have BK204 := n1_; have GW204 := n2_; have GE204 := n3_; clear n0_ n1_ n2_ n3_; clear hb hbox hg; have hcz17_0 : w16.cell? ⟨gb204, 0, none⟩ = some (.int .i64 a0_0) := (blk_cell BK204.out 0).trans rfl; have hcz17_1 : w16.cell? ⟨gb204, 1, none⟩ = some (.slice A0_1 l0_1.length c0_1) := (blk_cell BK204.out 1).trans rfl; have hfz17_0 := blk_frozen BK204.out 0; have hfz17_1 := blk_frozen BK204.out 1) | ((with_reducible refine gate_callee (f := 54) rfl ?_); refine goesL_ (some 7) rfl rfl Try.func54 (by kernel_rfl) rfl #[.agg #[.int .i64 a0_0, .slice A0_1 l0_1.length c0_1]] rfl (by (try simp only [List.map_toArray, List.map_cons, List.map_nil]); first | done | rfl | (simp only [List.length_drop, List.length_take]; rfl)) ?_; (with_reducible refine (impl_isCnf.calls a0_0 _ _ l0_1 false _ ?side1 ?side2 A2.out).mono ?_); (case side1 => repeat (first | exact (Kd.C_below HR0_1.out HB.out) | (with_reducible refine Kd.C_alloc ?_ _) | (with_reducible refine Kd.C_drewN ?_ _) | (with_reducible refine Kd.C_drew ?_))); (case side2 => exact HC0_1.out); rintro e w18 ⟨rfl, hb⟩; refine ⟨_, rfl, ?_⟩; have n0_ := Aside0.mk (blk_below (g := gb204) (o := .cells #[.int .i64 a0_0, .slice A0_1 l0_1.length c0_1] 30 (0, 0)) (by (with_reducible repeat (first | refine blk_drewN ?_ _ | refine blk_drew ?_ | refine blk_alloc ?_ _)); exact BK204.out) hb); have n1_ := Aside0.mk (below_step (by repeat (first | (with_reducible first | exact HB.out | apply below_alloc | apply pw_below_drewN | apply below_drew1 | refine below_set ?_ GE204.out) | exact HB.out)) hb); clear BK204; clear HB; have BK204 := n0_; have HB := n1_; clear n0_ n1_; (try clear hb); (try clear hb2); (try clear hk); (try clear hi)))
    go_ret2
    exact ⟨_, by first | rfl | (simp [errW_none, errW_some] <;> rfl) | (simp [*, errW_none, errW_some] <;> rfl), by first | exact Kd.R_nil _ _ _ _ _ | exact Kd.N_nil _ _ _ _ _ | exact Kd.V_nil _ _ _ _ _ | exact Kd.Q_nil _ _ _ _ _ | exact Kd.S_nil _ _ _ _ _, by repeat (first | (with_reducible first | exact HB.out | apply below_alloc | apply pw_below_drewN | apply below_drew1 | refine below_set ?_ GE204.out) | exact HB.out)⟩

/-! ### laws_eqBoolS: function 33 -/
def laws_eqBoolS.l0 : Nat → List Bool → List Bool → Int → Option (Bool)
  | 0, _, _, _ => none
  | k + 1, x0, x1, x5 => if x5 < (x0.length : Int) then (if 0 ≤ x5 then (if x5 < (x1.length : Int) then (if ((rdOf false x0 x5) != (rdOf false x1 x5)) = true then (some false) else (laws_eqBoolS.l0 k x0 x1 (wrap64 (x5 + 1)))) else (none)) else (none)) else (some true)
def laws_eqBoolS.f (k : Nat) (l0 : List Bool) (l1 : List Bool) : Option (Bool) := if (l0.length : Int) = (l1.length : Int) then (laws_eqBoolS.l0 k l0 l1 0) else (some false)
theorem laws_eqBoolS.mono_l : ∀ k, (∀ y0 y1 y2, LeO (laws_eqBoolS.l0 k y0 y1 y2) (laws_eqBoolS.l0 (k + 1) y0 y1 y2))
  | 0 => fun _ _ _ r h => by simp [laws_eqBoolS.l0] at h
  | k + 1 => by
    have ih0 := laws_eqBoolS.mono_l k
    · intro y0 y1 y2
      unfold laws_eqBoolS.l0
      repeat' first
      | (with_reducible exact ih0 _ _ _)
      | (with_reducible exact LeO.refl _)
      | (with_reducible exact LeO.none _)
      | (with_reducible refine LeO.ite ?_ ?_)
      | (with_reducible refine LeO.bind ?_ (fun _ => ?_))
      | exact ih0 _ _ _
      | exact LeO.none _
      | refine LeO.ite ?_ ?_
      | refine LeO.bind ?_ (fun _ => ?_)
theorem laws_eqBoolS.mono : ∀ a0 a1 k, LeO (laws_eqBoolS.f k a0 a1) (laws_eqBoolS.f (k + 1) a0 a1) := by
  intro a0 a1 k
  have ih0 := laws_eqBoolS.mono_l k
  unfold laws_eqBoolS.f
  repeat' first
      | (with_reducible exact ih0 _ _ _)
      | (with_reducible exact LeO.refl _)
      | (with_reducible exact LeO.none _)
      | (with_reducible refine LeO.ite ?_ ?_)
      | (with_reducible refine LeO.bind ?_ (fun _ => ?_))
      | exact ih0 _ _ _
      | exact LeO.none _
      | refine LeO.ite ?_ ?_
      | refine LeO.bind ?_ (fun _ => ?_)
set_option maxHeartbeats 8000000 in
set_option maxRecDepth 100000 in
theorem laws_eqBoolS.calls (k : Nat) (A0 : Option Addr) (c0 : Nat) (l0 : List Bool) (A1 : Option Addr) (c1 : Nat) (l1 : List Bool) (r : Bool) (w : World) (hr0 : Kd.C Kd.bool w A0 l0.length l0) (hc0 : l0.length ≤ c0) (hr1 : Kd.C Kd.bool w A1 l1.length l1) (hc1 : l1.length ≤ c1) (h : laws_eqBoolS.f k l0 l1 = some r) :
    Calls Try.prog 33 #[.slice A0 l0.length c0, .slice A1 l1.length c1] w fun e w' => e = .returned (.bool r) ∧ Drawn0 w w' := by
  have HR0 := Aside0.mk hr0
  have HC0 := Aside0.mk hc0
  clear hr0 hc0
  have HR1 := Aside0.mk hr1
  have HC1 := Aside0.mk hc1
  clear hr1 hc1
  have H : (if (l0.length : Int) = (l1.length : Int) then (laws_eqBoolS.l0 k l0 l1 0) else (some false)) = some r := h
  clear h
  by_cases c3 : (l0.length : Int) = (l1.length : Int)
  · rw [if_pos c3] at H
    have c3b0 : ((l0.length : Int) == (l1.length : Int)) = true := beq_iff_eq.mpr c3
    have c3b1 : ((l0.length : Int) != (l1.length : Int)) = false := bne_eq_false_iff_eq.mpr c3
    have c3b2 : (l0.length == l1.length) = true := by first | simpa using c3 | (simp at c3 ⊢; omega)
    clear c3
    have H' := Aside0.mk H
    clear H
    go_enter Try.func33, Try.ntmps33
    go_wp2
    repeat (go_quiet (fail); try go_wp2)
    go_loopg [5] k (fun kq v5 w' => ∃ (x5_1 : Int), v5 = .int .i64 x5_1 ∧ Aside0 (laws_eqBoolS.l0 kq l0 l1 x5_1 = some r) ∧ Aside0 (kq ≤ k) ∧ Drawn0 w w')
    case atStart => exact ⟨(0), (by first | rfl | (simp; done) | (simp [*]; done)), H', ⟨Nat.le_refl _⟩, by repeat (first | exact Drawn0.refl _ | apply Drawn0.step)⟩
    case round =>
      clear H'
      try clear c1
      try clear p2
      try clear c3
      try clear c3b0
      try clear c3b1
      try clear c3b2
      obtain ⟨x5_1, rfl, HA, HK1, ⟨m1, rfl⟩⟩ := hrel
      cases gk with
      | zero => exact absurd HA.out (by simp [laws_eqBoolS.l0])
      | succ k1 =>
        have H := HA.out
        clear HA
        simp only [laws_eqBoolS.l0] at H
        by_cases c4 : x5_1 < (l0.length : Int)
        · rw [if_pos c4] at H
          have c4b0 : decide (x5_1 < (l0.length : Int)) = true := decide_eq_true c4
          clear c4
          by_cases c5 : 0 ≤ x5_1
          · rw [if_pos c5] at H
            have c5b0 : decide (0 ≤ x5_1) = true := decide_eq_true c5
            clear c5
            by_cases c6 : x5_1 < (l1.length : Int)
            · rw [if_pos c6] at H
              have c6b0 : decide (x5_1 < (l1.length : Int)) = true := decide_eq_true c6
              clear c6
              by_cases c7 : ((rdOf false l0 x5_1) != (rdOf false l1 x5_1)) = true
              · rw [if_pos c7] at H
                have c7b0 : ((rdOf false l0 x5_1) != (rdOf false l1 x5_1)) = true := c7
                (try (have c7b1 : decide ((rdOf false l0 x5_1) = (rdOf false l1 x5_1)) = false := by simpa using c7))
                (try (have c7b2 : ((rdOf false l0 x5_1) == (rdOf false l1 x5_1)) = false := by simpa using c7))
                (try (have c7b3 : ¬ ((rdOf false l0 x5_1) = (rdOf false l1 x5_1)) := by simpa using c7))
                clear c7
                obtain rfl := Option.some.inj H
                have p210 : 0 ≤ (x5_1 : Int) := of_decide_eq_true (by first | (with_reducible assumption) | assumption)
                have q210 : x5_1 < (l0.length : Int) := of_decide_eq_true (by first | (with_reducible assumption) | assumption)
                obtain ⟨ad210, e210, hx210_0⟩ := Kd.at_bool HR0.out x5_1 p210 q210
                cases e210
                replace p210 := eq_true p210
                replace q210 := eq_true q210
                have p211 : 0 ≤ (x5_1 : Int) := of_decide_eq_true (by first | (with_reducible assumption) | assumption)
                have q211 : x5_1 < (l1.length : Int) := of_decide_eq_true (by first | (with_reducible assumption) | assumption)
                obtain ⟨ad211, e211, hx211_0⟩ := Kd.at_bool HR1.out x5_1 p211 q211
                cases e211
                replace p211 := eq_true p211
                replace q211 := eq_true q211
                go_wp2
                repeat (go_quiet (fail); try go_wp2)
                go_ret
                exact ⟨by first | rfl | (simp; done) | (simp [*]; done), by repeat (first | exact Drawn0.refl _ | apply Drawn0.step)⟩
              · rw [if_neg c7] at H
                have c7b0 : ((rdOf false l0 x5_1) != (rdOf false l1 x5_1)) = false := by simpa using c7
                (try (have c7b1 : decide ((rdOf false l0 x5_1) = (rdOf false l1 x5_1)) = true := by simpa using c7))
                (try (have c7b2 : ((rdOf false l0 x5_1) == (rdOf false l1 x5_1)) = true := by simpa using c7))
                clear c7
                have H' := Aside0.mk H
                clear H
                have p210 : 0 ≤ (x5_1 : Int) := of_decide_eq_true (by first | (with_reducible assumption) | assumption)
                have q210 : x5_1 < (l0.length : Int) := of_decide_eq_true (by first | (with_reducible assumption) | assumption)
                obtain ⟨ad210, e210, hx210_0⟩ := Kd.at_bool HR0.out x5_1 p210 q210
                cases e210
                replace p210 := eq_true p210
                replace q210 := eq_true q210
                have p211 : 0 ≤ (x5_1 : Int) := of_decide_eq_true (by first | (with_reducible assumption) | assumption)
                have q211 : x5_1 < (l1.length : Int) := of_decide_eq_true (by first | (with_reducible assumption) | assumption)
                obtain ⟨ad211, e211, hx211_0⟩ := Kd.at_bool HR1.out x5_1 p211 q211
                cases e211
                replace p211 := eq_true p211
                replace q211 := eq_true q211
                go_wp2
                repeat (go_quiet (fail); try go_wp2)
                go_roundg k1
                case measure => have := HK1.out; omega
                case rel => exact ⟨(wrap64 (x5_1 + 1)), (by first | rfl | (simp; done) | (simp [*]; done)), H', ⟨by have := HK1.out; omega⟩, by repeat (first | exact Drawn0.refl _ | apply Drawn0.step)⟩
            · rw [if_neg c6] at H
              exact absurd H (by simp)
          · rw [if_neg c5] at H
            exact absurd H (by simp)
        · rw [if_neg c4] at H
          have c4b0 : decide (x5_1 < (l0.length : Int)) = false := decide_eq_false c4
          clear c4
          obtain rfl := Option.some.inj H
          go_wp2
          repeat (go_quiet (fail); try go_wp2)
          go_ret
          exact ⟨by first | rfl | (simp; done) | (simp [*]; done), by repeat (first | exact Drawn0.refl _ | apply Drawn0.step)⟩
  · rw [if_neg c3] at H
    have c3b0 : ((l0.length : Int) == (l1.length : Int)) = false := beq_eq_false_iff_ne.mpr c3
    have c3b1 : ((l0.length : Int) != (l1.length : Int)) = true := bne_iff_ne.mpr c3
    have c3b2 : (l0.length == l1.length) = false := by first | simpa using c3 | (simp at c3 ⊢; omega)
    obtain rfl := Option.some.inj H
    go_enter Try.func33, Try.ntmps33
    go_wp2
    repeat (go_quiet (fail); try go_wp2)
    go_ret
    exact ⟨by first | rfl | (simp; done) | (simp [*]; done), by repeat (first | exact Drawn0.refl _ | apply Drawn0.step)⟩

/-! ### laws_markBoolS: function 34 -/
def laws_markBoolS.l0 : Nat → List Bool → Int → Int → Option (Int × List Bool)
  | 0, _, _, _ => none
  | k + 1, x0, x1, x5 => if x5 < (x0.length : Int) then (if 0 ≤ x5 then (laws_markBoolS.l0 k (x0.set (x5 : Int).toNat ((Int.tmod x1 3) == 0)) (wrap64 (x1 + 1)) (wrap64 (x5 + 1))) else (none)) else (some (x1, x0))
def laws_markBoolS.f (k : Nat) (l0 : List Bool) (a1 : Int) : Option (Int × List Bool) := laws_markBoolS.l0 k l0 a1 0
theorem laws_markBoolS.mono_l : ∀ k, (∀ y0 y1 y2, LeO (laws_markBoolS.l0 k y0 y1 y2) (laws_markBoolS.l0 (k + 1) y0 y1 y2))
  | 0 => fun _ _ _ r h => by simp [laws_markBoolS.l0] at h
  | k + 1 => by
    have ih0 := laws_markBoolS.mono_l k
    · intro y0 y1 y2
      unfold laws_markBoolS.l0
      repeat' first
      | (with_reducible exact ih0 _ _ _)
      | (with_reducible exact LeO.refl _)
      | (with_reducible exact LeO.none _)
      | (with_reducible refine LeO.ite ?_ ?_)
      | (with_reducible refine LeO.bind ?_ (fun _ => ?_))
      | exact ih0 _ _ _
      | exact LeO.none _
      | refine LeO.ite ?_ ?_
      | refine LeO.bind ?_ (fun _ => ?_)
theorem laws_markBoolS.mono : ∀ a0 a1 k, LeO (laws_markBoolS.f k a0 a1) (laws_markBoolS.f (k + 1) a0 a1) := by
  intro a0 a1 k
  have ih0 := laws_markBoolS.mono_l k
  unfold laws_markBoolS.f
  repeat' first
      | (with_reducible exact ih0 _ _ _)
      | (with_reducible exact LeO.refl _)
      | (with_reducible exact LeO.none _)
      | (with_reducible refine LeO.ite ?_ ?_)
      | (with_reducible refine LeO.bind ?_ (fun _ => ?_))
      | exact ih0 _ _ _
      | exact LeO.none _
      | refine LeO.ite ?_ ?_
      | refine LeO.bind ?_ (fun _ => ?_)
set_option maxHeartbeats 8000000 in
set_option maxRecDepth 100000 in
theorem laws_markBoolS.calls (k : Nat) (P0_ : Nat → Prop) (u9000_ : Value) (l0 : List Bool) (a1 : Int) (r1 : Int) (r2 : List Bool) (w0 w : World) (hB : Below w0.heap.size w0 w) (ho0 : Kd.R Kd.bool 4 w w0.heap.size P0_ u9000_ l0) (h : laws_markBoolS.f k l0 a1 = some (r1, r2)) :
    Calls Try.prog 34 #[u9000_, .int .i64 a1] w fun e w' => e = .returned (.int .i64 r1) ∧ Kd.R Kd.bool 4 w' w0.heap.size (fun k_ => (P0_ k_ ∨ w.heap.size ≤ k_)) u9000_ r2 ∧ Below w0.heap.size w0 w' ∧ Kept w w' (fun k_ => P0_ k_) := by
  have HO0 := Aside0.mk (show Kd.R Kd.bool 4 w w0.heap.size (fun k_ => (P0_ k_ ∨ w.heap.size ≤ k_)) u9000_ l0 from Kd.R_mono ho0 (fun k_ hk => (.inl hk)))
  have HK := Aside0.mk (Kept.refl w (fun k_ => P0_ k_))
  have HW0 := Aside0.mk hB.size
  have HB := Aside0.mk hB
  clear hB
  have H : (laws_markBoolS.l0 k l0 a1 0) = some (r1, r2) := h
  clear h
  have H' := Aside0.mk H
  clear H
  go_enter Try.func34, Try.ntmps34
  go_wp2
  go_loopg [1, 5] k (fun kq v1 v5 w' => ∃ (x0_1 : List Bool) (x1_1 : Int) (x5_1 : Int), v1 = .int .i64 x1_1 ∧ v5 = .int .i64 x5_1 ∧ Aside0 (laws_markBoolS.l0 kq x0_1 x1_1 x5_1 = some (r1, r2)) ∧ Aside0 (kq ≤ k) ∧ Aside0 (Kd.R Kd.bool 4 w' w0.heap.size (fun k_ => (P0_ k_ ∨ w.heap.size ≤ k_)) u9000_ x0_1) ∧ Aside0 (Kept w w' (fun k_ => P0_ k_)) ∧ Aside0 (Below w0.heap.size w0 w'))
  case atStart => exact ⟨(l0), (a1), (0), (by first | rfl | (simp; done) | (simp [*]; done)), (by first | rfl | (simp; done) | (simp [*]; done)), H', ⟨Nat.le_refl _⟩, ⟨by (with_reducible repeat (first | apply Kd.R_alloc | apply Kd.R_drewN | apply Kd.R_drew)); exact HO0.out⟩, ⟨by repeat (first | (with_reducible first | exact HK.out | apply Kept.alloc | apply Kept.drewN | apply Kept.drew) | exact HK.out)⟩, ⟨by repeat (first | (with_reducible first | exact HB.out | apply below_alloc | apply pw_below_drewN | apply below_drew1) | exact HB.out)⟩⟩
  case round =>
    clear H'
    try clear p2
    obtain ⟨x0_1, x1_1, x5_1, rfl, rfl, HA, HK1, HO_0, HK, HB⟩ := hrel
    cases gk with
    | zero => exact absurd HA.out (by simp [laws_markBoolS.l0])
    | succ k1 =>
      have H := HA.out
      clear HA
      simp only [laws_markBoolS.l0] at H
      by_cases c3 : x5_1 < (x0_1.length : Int)
      · rw [if_pos c3] at H
        have c3b0 : decide (x5_1 < (x0_1.length : Int)) = true := decide_eq_true c3
        clear c3
        by_cases c4 : 0 ≤ x5_1
        · rw [if_pos c4] at H
          have c4b0 : decide (0 ≤ x5_1) = true := decide_eq_true c4
          clear c4
          obtain ⟨y212, hy212⟩ : ∃ y_ : List Bool, y_ = (x0_1.set (x5_1 : Int).toNat ((Int.tmod x1_1 3) == 0)) := ⟨_, rfl⟩
          replace H : (laws_markBoolS.l0 k1 y212 (wrap64 (x1_1 + 1)) (wrap64 (x5_1 + 1))) = some (r1, r2) := by first | (rw [hy212]; with_reducible exact H) | (have H2_ := (Option.bind_some _ _).symm.trans H; rw [hy212]; with_reducible exact H2_) | (have H2_ := (Option.bind_some _ _).symm.trans H; with_reducible exact H2_) | with_reducible exact H | (rw [hy212]; exact H) | exact H
          have Ny212 := Aside0.mk hy212
          clear hy212
          have H' := Aside0.mk H
          clear H
          obtain ⟨Ao6, co6, eo6⟩ := Kd.R_slice HO_0.out
          subst eo6
          have p5 : 0 ≤ (x5_1 : Int) := of_decide_eq_true (by first | (with_reducible assumption) | assumption)
          have q5 : (x5_1 : Int) < ((x0_1.length : Int) : Int) := of_decide_eq_true (by first | (with_reducible assumption) | assumption)
          obtain ⟨go5, co5, eo5, gb5, gl5, cl5, HG5⟩ := Kd.R_form HO_0.out (by omega)
          (first | cases eo5 | (injection eo5 with ea_ en_ ec_; (first | subst ea_ | (injection ea_ with ea_; subst ea_)); subst ec_; clear en_))
          have GB5 := Aside0.mk gb5
          have GG5 := Aside0.mk HG5
          clear gb5 gl5 HG5
          have HMgo5 := Aside0.mk (show (P0_ go5 ∨ w.heap.size ≤ go5) from (HO_0.out.1 _ rfl))
          obtain ⟨hx5_0, hf5_0⟩ := Kd.R_celln false HO_0.out (x5_1 : Int) p5 q5
          replace p5 := eq_true p5
          replace q5 := eq_true q5
          have HP7 := Kd.R_putg HO_0.out (x5_1 : Int) ((Int.tmod x1_1 3) == 0)
          go_wp2_with (first | ((with_reducible refine gate_store (t := 4) (p := 17) rfl ?_); refine store_event (t := 4) (p := 17) (v := ?vo_w8) (w1 := (wr.setCell ⟨go5, (x5_1 : Int).toNat, none⟩ (.bool ((Int.tmod x1_1 3) == 0)))) ?hg ?ho ?hn ?hr ?_; (case ho => rfl); (case hg => rfl); (case hn => rfl); (case hr => first | (go_simp; done) | (go_simp; rfl)); intro w8 hw; have hg : wr.grownBy w8 (some go5) := (by rw [hw]; exact HP7.2); have hp_ : Kd.R Kd.bool 4 w8 w0.heap.size (fun k_ => (P0_ k_ ∨ w.heap.size ≤ k_)) (.slice (some ⟨go5, 0, none⟩) x0_1.length co6) y212 := (by rw [hw, Ny212.out]; exact HP7.1); clear HP7; have n0_ := Aside0.mk (hp_); have n1_ := Aside0.mk ((by rw [hw]; exact below_set (HB.out) GB5.out : Below w0.heap.size w0 w8)); have n2_ := Aside0.mk (Kept.of_grown (S := (fun k_ => P0_ k_)) hg (by repeat (first | (with_reducible first | exact HK.out | apply Kept.alloc | apply Kept.drewN | apply Kept.drew) | exact HK.out)) (fun k_ e_ => (HO_0.out.1 k_ e_))); clear HO_0; clear HB; clear HK; have HO_0 := n0_; have HB := n1_; have HK := n2_; clear n0_ n1_ n2_; clear hg hw hp_))
          go_roundg k1
          case measure => have := HK1.out; omega
          case rel => exact ⟨(y212), (wrap64 (x1_1 + 1)), (wrap64 (x5_1 + 1)), (by first | rfl | (simp; done) | (simp [*]; done)), (by first | rfl | (simp; done) | (simp [*]; done)), H', ⟨by have := HK1.out; omega⟩, ⟨by (with_reducible repeat (first | apply Kd.R_alloc | apply Kd.R_drewN | apply Kd.R_drew)); exact HO_0.out⟩, ⟨by repeat (first | (with_reducible first | exact HK.out | apply Kept.alloc | apply Kept.drewN | apply Kept.drew) | exact HK.out)⟩, ⟨by repeat (first | (with_reducible first | exact HB.out | apply below_alloc | apply pw_below_drewN | apply below_drew1) | exact HB.out)⟩⟩
        · rw [if_neg c4] at H
          exact absurd H (by simp)
      · rw [if_neg c3] at H
        have c3b0 : decide (x5_1 < (x0_1.length : Int)) = false := decide_eq_false c3
        clear c3
        simp only [Option.some.injEq, Prod.mk.injEq] at H
        obtain ⟨rfl, rfl⟩ := H
        obtain ⟨Ao9, co9, eo9⟩ := Kd.R_slice HO_0.out
        subst eo9
        go_wp2
        go_ret
        exact ⟨by first | rfl | (simp [errW_none, errW_some] <;> rfl) | (simp [*, errW_none, errW_some] <;> rfl), by (with_reducible repeat (first | apply Kd.R_alloc | apply Kd.R_drewN | apply Kd.R_drew)); exact HO_0.out, by repeat (first | (with_reducible first | exact HB.out | apply below_alloc | apply pw_below_drewN | apply below_drew1) | exact HB.out), by repeat (first | (with_reducible first | exact HK.out | apply Kept.alloc | apply Kept.drewN | apply Kept.drew) | exact HK.out)⟩

/-! ### laws_heldBoolS: function 35 -/
def laws_heldBoolS.l0 : Nat → List Bool → Int → Int → Option (Int)
  | 0, _, _, _ => none
  | k + 1, x0, x1, x5 => if x5 < (x0.length : Int) then (if 0 ≤ x5 then (if ((rdOf false x0 x5) != ((Int.tmod x1 3) == 0)) = true then (some (-1)) else (laws_heldBoolS.l0 k x0 (wrap64 (x1 + 1)) (wrap64 (x5 + 1)))) else (none)) else (some x1)
def laws_heldBoolS.f (k : Nat) (l0 : List Bool) (a1 : Int) : Option (Int) := laws_heldBoolS.l0 k l0 a1 0
theorem laws_heldBoolS.mono_l : ∀ k, (∀ y0 y1 y2, LeO (laws_heldBoolS.l0 k y0 y1 y2) (laws_heldBoolS.l0 (k + 1) y0 y1 y2))
  | 0 => fun _ _ _ r h => by simp [laws_heldBoolS.l0] at h
  | k + 1 => by
    have ih0 := laws_heldBoolS.mono_l k
    · intro y0 y1 y2
      unfold laws_heldBoolS.l0
      repeat' first
      | (with_reducible exact ih0 _ _ _)
      | (with_reducible exact LeO.refl _)
      | (with_reducible exact LeO.none _)
      | (with_reducible refine LeO.ite ?_ ?_)
      | (with_reducible refine LeO.bind ?_ (fun _ => ?_))
      | exact ih0 _ _ _
      | exact LeO.none _
      | refine LeO.ite ?_ ?_
      | refine LeO.bind ?_ (fun _ => ?_)
theorem laws_heldBoolS.mono : ∀ a0 a1 k, LeO (laws_heldBoolS.f k a0 a1) (laws_heldBoolS.f (k + 1) a0 a1) := by
  intro a0 a1 k
  have ih0 := laws_heldBoolS.mono_l k
  unfold laws_heldBoolS.f
  repeat' first
      | (with_reducible exact ih0 _ _ _)
      | (with_reducible exact LeO.refl _)
      | (with_reducible exact LeO.none _)
      | (with_reducible refine LeO.ite ?_ ?_)
      | (with_reducible refine LeO.bind ?_ (fun _ => ?_))
      | exact ih0 _ _ _
      | exact LeO.none _
      | refine LeO.ite ?_ ?_
      | refine LeO.bind ?_ (fun _ => ?_)
set_option maxHeartbeats 8000000 in
set_option maxRecDepth 100000 in
theorem laws_heldBoolS.calls (k : Nat) (A0 : Option Addr) (c0 : Nat) (l0 : List Bool) (a1 : Int) (r : Int) (w : World) (hr0 : Kd.C Kd.bool w A0 l0.length l0) (hc0 : l0.length ≤ c0) (h : laws_heldBoolS.f k l0 a1 = some r) :
    Calls Try.prog 35 #[.slice A0 l0.length c0, .int .i64 a1] w fun e w' => e = .returned (.int .i64 r) ∧ Drawn0 w w' := by
  have HR0 := Aside0.mk hr0
  have HC0 := Aside0.mk hc0
  clear hr0 hc0
  have H : (laws_heldBoolS.l0 k l0 a1 0) = some r := h
  clear h
  have H' := Aside0.mk H
  clear H
  go_enter Try.func35, Try.ntmps35
  go_wp2
  go_loopg [1, 5] k (fun kq v1 v5 w' => ∃ (x1_1 : Int) (x5_1 : Int), v1 = .int .i64 x1_1 ∧ v5 = .int .i64 x5_1 ∧ Aside0 (laws_heldBoolS.l0 kq l0 x1_1 x5_1 = some r) ∧ Aside0 (kq ≤ k) ∧ Drawn0 w w')
  case atStart => exact ⟨(a1), (0), (by first | rfl | (simp; done) | (simp [*]; done)), (by first | rfl | (simp; done) | (simp [*]; done)), H', ⟨Nat.le_refl _⟩, by repeat (first | exact Drawn0.refl _ | apply Drawn0.step)⟩
  case round =>
    clear H'
    try clear p2
    obtain ⟨x1_1, x5_1, rfl, rfl, HA, HK1, ⟨m1, rfl⟩⟩ := hrel
    cases gk with
    | zero => exact absurd HA.out (by simp [laws_heldBoolS.l0])
    | succ k1 =>
      have H := HA.out
      clear HA
      simp only [laws_heldBoolS.l0] at H
      by_cases c3 : x5_1 < (l0.length : Int)
      · rw [if_pos c3] at H
        have c3b0 : decide (x5_1 < (l0.length : Int)) = true := decide_eq_true c3
        clear c3
        by_cases c4 : 0 ≤ x5_1
        · rw [if_pos c4] at H
          have c4b0 : decide (0 ≤ x5_1) = true := decide_eq_true c4
          clear c4
          by_cases c5 : ((rdOf false l0 x5_1) != ((Int.tmod x1_1 3) == 0)) = true
          · rw [if_pos c5] at H
            have c5b0 : ((rdOf false l0 x5_1) != ((Int.tmod x1_1 3) == 0)) = true := c5
            (try (have c5b1 : decide ((rdOf false l0 x5_1) = ((Int.tmod x1_1 3) == 0)) = false := by simpa using c5))
            (try (have c5b2 : ((rdOf false l0 x5_1) == ((Int.tmod x1_1 3) == 0)) = false := by simpa using c5))
            (try (have c5b3 : ¬ ((rdOf false l0 x5_1) = ((Int.tmod x1_1 3) == 0)) := by simpa using c5))
            clear c5
            obtain rfl := Option.some.inj H
            have p213 : 0 ≤ (x5_1 : Int) := of_decide_eq_true (by first | (with_reducible assumption) | assumption)
            have q213 : x5_1 < (l0.length : Int) := of_decide_eq_true (by first | (with_reducible assumption) | assumption)
            obtain ⟨ad213, e213, hx213_0⟩ := Kd.at_bool HR0.out x5_1 p213 q213
            cases e213
            replace p213 := eq_true p213
            replace q213 := eq_true q213
            go_wp2
            go_ret
            exact ⟨by first | rfl | (simp; done) | (simp [*]; done), by repeat (first | exact Drawn0.refl _ | apply Drawn0.step)⟩
          · rw [if_neg c5] at H
            have c5b0 : ((rdOf false l0 x5_1) != ((Int.tmod x1_1 3) == 0)) = false := by simpa using c5
            (try (have c5b1 : decide ((rdOf false l0 x5_1) = ((Int.tmod x1_1 3) == 0)) = true := by simpa using c5))
            (try (have c5b2 : ((rdOf false l0 x5_1) == ((Int.tmod x1_1 3) == 0)) = true := by simpa using c5))
            clear c5
            have H' := Aside0.mk H
            clear H
            have p213 : 0 ≤ (x5_1 : Int) := of_decide_eq_true (by first | (with_reducible assumption) | assumption)
            have q213 : x5_1 < (l0.length : Int) := of_decide_eq_true (by first | (with_reducible assumption) | assumption)
            obtain ⟨ad213, e213, hx213_0⟩ := Kd.at_bool HR0.out x5_1 p213 q213
            cases e213
            replace p213 := eq_true p213
            replace q213 := eq_true q213
            go_wp2
            go_roundg k1
            case measure => have := HK1.out; omega
            case rel => exact ⟨(wrap64 (x1_1 + 1)), (wrap64 (x5_1 + 1)), (by first | rfl | (simp; done) | (simp [*]; done)), (by first | rfl | (simp; done) | (simp [*]; done)), H', ⟨by have := HK1.out; omega⟩, by repeat (first | exact Drawn0.refl _ | apply Drawn0.step)⟩
        · rw [if_neg c4] at H
          exact absurd H (by simp)
      · rw [if_neg c3] at H
        have c3b0 : decide (x5_1 < (l0.length : Int)) = false := decide_eq_false c3
        clear c3
        obtain rfl := Option.some.inj H
        go_wp2
        go_ret
        exact ⟨by first | rfl | (simp; done) | (simp [*]; done), by repeat (first | exact Drawn0.refl _ | apply Drawn0.step)⟩

end Go.Proofs.Ytelfahcjeldliaa.PFnExactLeastModel
