/- WRITTEN BY A PROGRAM OF THIS SESSION (wip/xprint) OVER THE KIT's PRINT, FOR THIS CLAIM: for Go functions that the law reaches, one Lean function each and the proof that Go's call comes to its answer. No conditions but those that each theorem names. -/
import Derived.Test.YtelfahcjeldliaaPFnExactPropagatex0
import Derived.Test.YtelfahcjeldliaaPFnExactPropagatex1
import Derived.Test.YtelfahcjeldliaaPFnExactPropagatex2
import Derived.Test.YtelfahcjeldliaaPFnExactPropagatex4
import Derived.Test.YtelfahcjeldliaaPFnExactPropagatex5
namespace Go.Proofs.Ytelfahcjeldliaa.PFnExactPropagate
open Go.RowKit Go.Proofs.YtelfahcjeldliaaW.PrintWords Go.Proofs.YtelfahcjeldliaaW.PrintLast Go.Proofs.YtelfahcjeldliaaW.PrintMore
attribute [local go_sem] max2_int min2_int max_two min_two max_three min_three max_four min_four   -- for this text's walks alone
set_option linter.unusedVariables false
set_option linter.unusedSimpArgs false

/-! ### laws_markIntSS: function 72 -/
/-- the count of all numbers -/
def sumL (l : List (List Int)) : Nat := (l.map List.length).sum
theorem markI_run : ∀ (d i : Nat) (l : List Int) (a : Int), i + d = l.length → 0 ≤ a → a + d ≤ 4611686018427387904 → l.length ≤ 4611686018427387904 → ∃ r, laws_markIntS.l0 (d + 1) l a (i : Int) = some (a + d, r) ∧ r.length = l.length := by
  intro d
  induction d with
  | zero =>
    intro i l a hi _ _ _
    refine ⟨l, ?_, rfl⟩
    rw [laws_markIntS.l0, if_neg (by omega)]
    simp
  | succ d ih =>
    intro i l a hi h0 h1 h2
    have e1 : wrap64 (a + 1) = a + 1 := by unfold wrap64; omega
    have e2 : wrap64 ((i : Int) + 1) = ((i + 1 : Nat) : Int) := by unfold wrap64; omega
    obtain ⟨r, hr, hrl⟩ := ih (i + 1) (l.set (i : Int).toNat a) (a + 1) (by simp; omega) (by omega) (by omega) (by simpa using h2)
    refine ⟨r, ?_, by simpa using hrl⟩
    rw [laws_markIntS.l0, if_pos (by omega), if_pos (by omega), e1, e2, hr]
    congr 2
    omega
/-- a row of rows, each of whose rows may be written: their cells lie as they lay, and each row is there -/
def WR (w0 : World) (g : Nat) (f : Nat → Nat) (vs : Nat → Value) (P : Nat → Prop) (l : List (List Int)) (V : World) : Prop :=
  ∀ j : Nat, j < l.length → V.cell? ⟨g, j, none⟩ = some (vs j) ∧ (∃ A c, vs j = .slice A (l.getD j []).length c) ∧ ∃ xs : List Int, xs.length = (l.getD j []).length ∧ Kd.R (Kd.int .i64) 3 V w0.heap.size (fun k => (P k ∧ k ≠ g) ∧ f k = j) (vs j) xs
theorem WR.of {w0 V : World} {P : Nat → Prop} {g n cap : Nat} {l : List (List Int)} (h : Kd.S (Kd.slice 3 (Kd.int .i64)) 37 V w0.heap.size P (.slice (some ⟨g, 0, none⟩) n cap) l) : ∃ f vs, WR w0 g f vs P l V := by
  obtain ⟨f, HR⟩ := h
  have hn := (Kd.R_reads' HR).1
  rw [List.length_zipIdx] at hn
  have key : ∀ j : Nat, ∃ v, j < l.length → V.cell? ⟨g, j, none⟩ = some v ∧ (∃ A c, v = .slice A (l.getD j []).length c) ∧ ∃ xs : List Int, xs.length = (l.getD j []).length ∧ Kd.R (Kd.int .i64) 3 V w0.heap.size (fun k => (P k ∧ k ≠ g) ∧ f k = j) v xs := by
    intro j
    by_cases hj : j < l.length
    · obtain ⟨c, hc, hM, hcell, _⟩ := Kd.R_elem HR (([], 0) : List Int × Nat) (j : Int) (by omega) (by omega)
      rw [Int.toNat_natCast] at hM hcell
      have he : l.zipIdx.getD j (([], 0) : List Int × Nat) = (l.getD j [], j) := by
        rw [List.getD_eq_getElem?_getD, List.getElem?_zipIdx, List.getElem?_eq_getElem hj, Nat.zero_add, List.getD_eq_getElem?_getD, List.getElem?_eq_getElem hj]
        rfl
      rw [he] at hM
      obtain ⟨v, rfl, hR⟩ := hM
      obtain ⟨A, cc, ev⟩ := Kd.R_slice hR
      refine ⟨v, fun _ => ⟨?_, ⟨A, cc, ev⟩, _, rfl, hR⟩⟩
      have h9 : V.cell? ⟨g, j * 1 + 0, none⟩ = some v := hcell 0 v rfl
      rwa [show j * 1 + 0 = j by omega] at h9
    · exact ⟨undef, fun h => absurd h hj⟩
  exact ⟨f, fun j => (key j).choose, fun j hj => (key j).choose_spec hj⟩
theorem WR.kept {w0 V V2 : World} {g : Nat} {f : Nat → Nat} {vs : Nat → Value} {P : Nat → Prop} {l : List (List Int)} (h : WR w0 g f vs P l V) (i : Nat) (xs : List Int) (hl : xs.length = (l.getD i []).length) (hk : Kept V V2 (fun k => (P k ∧ k ≠ g) ∧ f k = i)) (hR : Kd.R (Kd.int .i64) 3 V2 w0.heap.size (fun k => (P k ∧ k ≠ g) ∧ f k = i) (vs i) xs) : WR w0 g f vs P l V2 := by
  intro j hj
  obtain ⟨h1, h2, ys, h3, h4⟩ := h j hj
  refine ⟨cell_kept h1 hk (fun hg => hg.1.2 rfl), h2, ?_⟩
  by_cases e : j = i
  · subst e
    exact ⟨xs, hl, hR⟩
  · exact ⟨ys, h3, Kd.R_kept h4 hk (fun k hk1 hk2 => e (hk1.2.symm.trans hk2.2))⟩
theorem sumL_drop (l : List (List Int)) (i : Nat) (h : i < l.length) : sumL (l.drop i) = (l.getD i []).length + sumL (l.drop (i + 1)) := by
  unfold sumL
  rw [List.drop_eq_getElem_cons h, List.map_cons, List.sum_cons, List.getD_eq_getElem?_getD, List.getElem?_eq_getElem h, Option.getD_some]
set_option maxHeartbeats 800000 in
set_option maxRecDepth 100000 in
theorem markSS_any (P : Nat → Prop) (u : Value) (l : List (List Int)) (a : Int) (w0 w : World) (hB : Below w0.heap.size w0 w) (hS : Kd.S (Kd.slice 3 (Kd.int .i64)) 37 w w0.heap.size P u l) (h0 : 0 ≤ a) (h1 : a + sumL l ≤ 2305843009213693952) :
    Calls Try.prog 72 #[u, .int .i64 a] w fun e w' => (∃ b : Int, e = .returned (.int .i64 b) ∧ 0 ≤ b ∧ b ≤ 2305843009213693952) ∧ Below w0.heap.size w0 w' ∧ Kept w w' P := by
  obtain ⟨A, c, eu, hlc, hC⟩ := Kd.R_reads (Kd.S_R hS)
  subst eu
  have hmax : l.length ≤ 9223372036854775807 := Kd.C_max hC
  have hform : 0 < l.length → ∃ g, A = some ⟨g, 0, none⟩ := fun hp => by
    obtain ⟨g, cap, e, _⟩ := Kd.R_form (Kd.S_R hS) hp
    cases e
    exact ⟨g, rfl⟩
  have hw : ∀ g, A = some ⟨g, 0, none⟩ → ∃ f vs, WR w0 g f vs P l w := fun g e => by subst e; exact WR.of hS
  obtain ⟨f, vs, hWR⟩ : ∃ f vs, ∀ g, A = some ⟨g, 0, none⟩ → WR w0 g f vs P l w := by
    rcases Nat.eq_zero_or_pos l.length with hz | hp
    · exact ⟨fun _ => 0, fun _ => undef, fun g e j hj => by omega⟩
    · obtain ⟨g, e⟩ := hform hp
      obtain ⟨f, vs, h⟩ := hw g e
      exact ⟨f, vs, fun g2 e2 => by rw [e] at e2; cases e2; exact h⟩
  have HW := Aside0.mk hWR
  have HF := Aside0.mk hform
  have HB := Aside0.mk hB
  have HK := Aside0.mk (Kept.refl w P)
  have H1 := Aside0.mk (show a + sumL (l.drop 0) ≤ 2305843009213693952 by rw [List.drop_zero]; exact h1)
  clear hS hC hB hw hWR hform hlc h1
  go_enter Try.func72, Try.ntmps72
  go_wp2
  go_loopg [1, 5] l.length (fun gg v1 v5 wr => ∃ (b : Int) (kk : Nat), v1 = .int .i64 b ∧ v5 = .int .i64 kk ∧ kk ≤ l.length ∧ l.length - kk ≤ gg ∧ 0 ≤ b ∧ Aside0 (b + sumL (l.drop kk) ≤ 2305843009213693952) ∧ Aside0 (∀ g, A = some ⟨g, 0, none⟩ → WR w0 g f vs P l wr) ∧ Aside0 (Below w0.heap.size w0 wr) ∧ Aside0 (Kept w wr P))
  case atStart => exact ⟨a, 0, rfl, rfl, Nat.zero_le _, by omega, h0, H1, HW, HB, HK⟩
  case round =>
    clear HW HB HK H1
    obtain ⟨b, kk, rfl, rfl, hk, hg, hb0, H1, HW, HB, HK⟩ := hrel
    by_cases hlt : kk < l.length
    · have hltz : (kk : Int) < (l.length : Int) := by omega
      have h0z : (0 : Int) ≤ (kk : Int) := by omega
      obtain ⟨g, ea⟩ := HF.out (by omega)
      subst ea
      have hWR := HW.out g rfl
      obtain ⟨hx, ⟨A2, c2, ev⟩, xs, hxs, hR⟩ := hWR kk hlt
      have hsum := sumL_drop l kk hlt
      have hb1 := H1.out
      rw [hsum] at hb1
      obtain ⟨r2, hrun, hrl⟩ := markI_run xs.length 0 xs b (by omega) hb0 (by omega) (by omega)
      have hcall := laws_markIntS.calls (xs.length + 1) (fun k => (P k ∧ k ≠ g) ∧ f k = kk) (vs kk) xs b (b + xs.length) r2 w0 wr HB.out hR hrun
      have ew : IntKind.i64.wrap ((kk : Int) + 1) = ((kk + 1 : Nat) : Int) := IntWalk.i64_in _ (by omega)
      have HWR := Aside0.mk hWR
      obtain ⟨n2, hn2⟩ : ∃ n2, (l.getD kk []).length = n2 := ⟨_, rfl⟩
      rw [hn2] at ev
      have HN2 := Aside0.mk hn2
      have HEV := Aside0.mk ev
      rw [ev] at hx hcall
      have hb2 : b + (xs.length : Int) + sumL (l.drop (kk + 1)) ≤ 2305843009213693952 := by omega
      have H2 := Aside0.mk hb2
      have HL := Aside0.mk (hrl.trans hxs)
      have hb3 : 0 ≤ b + (xs.length : Int) := by omega
      clear hWR hR hrun hsum hb1 hb2 H1 HW ev hrl hxs hn2
      generalize b + (xs.length : Int) = b2 at hcall H2 hb3
      go_wp2_with (go_at_call 27; refine hcall.mono ?_; rintro e w3 ⟨rfl, hR3, hB3, hK3⟩; clear hcall)
      have n1_ := Aside0.mk (fun (g2 : Nat) (e2 : some (⟨g, 0, none⟩ : Addr) = some ⟨g2, 0, none⟩) => show WR w0 g2 f vs P l w3 from by
        cases e2
        refine HWR.out.kept kk r2 HL.out hK3 ?_
        rw [HEV.out]
        exact Kd.R_reok rfl hR3 (fun k hk2 => by
          obtain ⟨_, _, ys, _, h4⟩ := HWR.out kk hlt
          rw [HEV.out] at h4
          exact h4.1 k hk2))
      have n2_ := Aside0.mk (HK.out.then_ hK3 (fun k hk2 => .inl hk2.1.1))
      have n3_ := Aside0.mk hB3
      clear hR3 hB3 hK3 HB HK HWR
      go_roundg (gk - 1)
      case measure => omega
      case rel => exact ⟨b2, kk + 1, rfl, rfl, by omega, by omega, hb3, H2, n1_, n3_, n2_⟩
    · obtain rfl : kk = l.length := by omega
      have h2 := H1.out
      rw [List.drop_length] at h2
      go_wp2
      go_ret
      exact ⟨⟨b, rfl, hb0, by have : sumL [] = 0 := rfl; omega⟩, HB.out, HK.out⟩

/-! ### laws_markCnf: function 26 -/
set_option maxHeartbeats 800000 in
theorem markCnf_any (P : Nat → Prop) (u : Value) (l : List (List Int)) (a0 a : Int) (w0 w : World) (hB : Below w0.heap.size w0 w) (hS : Kd.S (Kd.slice 3 (Kd.int .i64)) 37 w w0.heap.size P u l) (h0 : 0 ≤ a) (h1 : a + sumL l ≤ 2305843009213693952) :
    Calls Try.prog 26 #[.agg #[.int .i64 a0, u], .int .i64 a] w fun e w' => (∃ b : Int, e = .returned (.int .i64 b) ∧ 0 ≤ b ∧ b ≤ 2305843009213693952) ∧ Below w0.heap.size w0 w' ∧ Kept w w' P := by
  have hu_Cnf := Try.underlying30
  obtain ⟨A, c, eu, hlc, hC⟩ := Kd.R_reads (Kd.S_R hS)
  subst eu
  have hb1 : Below w.heap.size w (w.alloc (.cells #[.int .i64 a0, .slice A l.length c] 30)) := (Below.refl _ _).alloc (Nat.le_refl _) _
  have hW : (w.alloc (.cells #[.int .i64 a0, .slice A l.length c] 30)).heap[w.heap.size]? = some (.cells #[.int .i64 a0, .slice A l.length c] 30 (0, 0)) := by
    show (w.heap.push _)[w.heap.size]? = _
    simp
  obtain ⟨W1, hW1, BX, HB1⟩ : ∃ W1, w.alloc (.cells #[.int .i64 a0, .slice A l.length c] 30) = W1 ∧ W1.heap[w.heap.size]? = some (.cells #[.int .i64 a0, .slice A l.length c] 30 (0, 0)) ∧ Below w.heap.size w W1 := ⟨_, rfl, hW, hb1⟩
  have hcall := markSS_any P (.slice A l.length c) l a w0 W1 (hB.trans (HB1.mono hB.size)) (Kd.S_step hS (fun k _ hk => HB1.block k hk)) h0 h1
  have hx1 : W1.cell? ⟨w.heap.size, 1, none⟩ = some (.slice A l.length c) := (blk_cell BX 1).trans rfl
  have HK := Aside0.mk (Kept.of_below HB1 P)
  have HW1 := Aside0.mk hW1
  clear hS hC hb1 hW hW1 BX HB1 hB
  go_enter Try.func26, Try.ntmps26
  go_upto_region 1 with fail
  rw [HW1.out]
  go_wp2_with (go_at_call 72; refine hcall.mono ?_; rintro e w3 ⟨⟨b, rfl, hb0, hb2⟩, hB3, hK3⟩)
  go_ret
  exact ⟨⟨b, rfl, hb0, hb2⟩, hB3, HK.out.then_ hK3 (fun k hk => .inl hk)⟩
section
variable {P : World → Prop} {V V2 : World} {ok S : Nat → Prop}
theorem foot_below (h : Foot P V ok) (hb : Below V.heap.size V V2) : Foot P V2 ok := h.step (fun k _ hlt => hb.block k hlt)
theorem foot_kept (h : Foot P V ok) (hk : Kept V V2 S) (hne : ∀ k, ok k → ¬ S k) : Foot P V2 ok := h.step (fun k hk' hlt => hk.2 k hlt (hne k hk'))
theorem foot_R {α : Type} {d : Kd α} {e base : Nat} {v : Value} {xs : List α} (h : d.R e V base ok v xs) : Foot (fun V => d.R e V base ok v xs) V ok := fun W' hW => Kd.R_step h hW
theorem foot_S {α : Type} {d : Kd α} {e base : Nat} {v : Value} {xs : List α} (h : Kd.S d e V base ok v xs) : Foot (fun V => Kd.S d e V base ok v xs) V ok := fun W' hW => Kd.S_step h hW
theorem foot_blk {g : Nat} {o : Obj} (h : V.heap[g]? = some o) (hok : ok g) : Foot (fun V => V.heap[g]? = some o) V ok := fun W' hW => (hW g hok (blk_lt h)).trans h
theorem foot_and {Q : World → Prop} (h : Foot P V ok) (k : Foot Q V ok) : Foot (fun V => P V ∧ Q V) V ok := fun W' hW => ⟨h W' hW, k W' hW⟩
theorem drawn_below (h : Drawn0 V V2) : Below V.heap.size V V2 := by
  obtain ⟨n, rfl⟩ := h.out
  exact pw_below_drewN (Below.refl _ _) n
theorem foot_C {α : Type} {d : Kd α} {A : Option Addr} {n : Nat} {xs : List α} (hd : Kd.Heap d) (h : d.C V A n xs) : Foot (fun V => d.C V A n xs) V (fun k => k < V.heap.size) := Kd.C_F hd h
end

/-! ### laws_heldIntS: function 28 -/
def laws_heldIntS.l0 : Nat → List Int → Int → Int → Option (Int)
  | 0, _, _, _ => none
  | k + 1, x0, x1, x5 => if x5 < (x0.length : Int) then (if 0 ≤ x5 then (if (rd x0 x5) = x1 then (laws_heldIntS.l0 k x0 (wrap64 (x1 + 1)) (wrap64 (x5 + 1))) else (some (-1))) else (none)) else (some x1)
def laws_heldIntS.f (k : Nat) (l0 : List Int) (a1 : Int) : Option (Int) := laws_heldIntS.l0 k l0 a1 0
theorem laws_heldIntS.mono_l : ∀ k, (∀ y0 y1 y2, LeO (laws_heldIntS.l0 k y0 y1 y2) (laws_heldIntS.l0 (k + 1) y0 y1 y2))
  | 0 => fun _ _ _ r h => by simp [laws_heldIntS.l0] at h
  | k + 1 => by
    have ih0 := laws_heldIntS.mono_l k
    · intro y0 y1 y2
      unfold laws_heldIntS.l0
      repeat' first
      | (with_reducible exact ih0 _ _ _)
      | (with_reducible exact LeO.refl _)
      | (with_reducible exact LeO.none _)
      | (with_reducible refine LeO.ite ?_ ?_)
      | (with_reducible refine LeO.bind ?_ (fun _ => ?_))
      | exact ih0 _ _ _
      | exact LeO.none _
      | refine LeO.ite ?_ ?_
      | refine LeO.bind ?_ (fun _ => ?_)
theorem laws_heldIntS.mono : ∀ a0 a1 k, LeO (laws_heldIntS.f k a0 a1) (laws_heldIntS.f (k + 1) a0 a1) := by
  intro a0 a1 k
  have ih0 := laws_heldIntS.mono_l k
  unfold laws_heldIntS.f
  repeat' first
      | (with_reducible exact ih0 _ _ _)
      | (with_reducible exact LeO.refl _)
      | (with_reducible exact LeO.none _)
      | (with_reducible refine LeO.ite ?_ ?_)
      | (with_reducible refine LeO.bind ?_ (fun _ => ?_))
      | exact ih0 _ _ _
      | exact LeO.none _
      | refine LeO.ite ?_ ?_
      | refine LeO.bind ?_ (fun _ => ?_)
set_option maxHeartbeats 8000000 in
set_option maxRecDepth 100000 in
theorem laws_heldIntS.calls (k : Nat) (A0 : Option Addr) (c0 : Nat) (l0 : List Int) (a1 : Int) (r : Int) (w : World) (hr0 : Kd.C (Kd.int .i64) w A0 l0.length l0) (hc0 : l0.length ≤ c0) (h : laws_heldIntS.f k l0 a1 = some r) :
    Calls Try.prog 28 #[.slice A0 l0.length c0, .int .i64 a1] w fun e w' => e = .returned (.int .i64 r) ∧ Drawn0 w w' := by
  have HR0 := Aside0.mk hr0
  have HC0 := Aside0.mk hc0
  clear hr0 hc0
  have H : (laws_heldIntS.l0 k l0 a1 0) = some r := h
  clear h
  have H' := Aside0.mk H
  clear H
  go_enter Try.func28, Try.ntmps28
  go_wp2
  go_loopg [1, 5] k (fun kq v1 v5 w' => ∃ (x1_1 : Int) (x5_1 : Int), v1 = .int .i64 x1_1 ∧ v5 = .int .i64 x5_1 ∧ Aside0 (laws_heldIntS.l0 kq l0 x1_1 x5_1 = some r) ∧ Aside0 (kq ≤ k) ∧ Drawn0 w w')
  case atStart => exact ⟨(a1), (0), (by first | rfl | (simp; done) | (simp [*]; done)), (by first | rfl | (simp; done) | (simp [*]; done)), H', ⟨Nat.le_refl _⟩, by repeat (first | exact Drawn0.refl _ | apply Drawn0.step)⟩
  case round =>
    clear H'
    try clear c2
    try clear p2
    obtain ⟨x1_1, x5_1, rfl, rfl, HA, HK1, ⟨m1, rfl⟩⟩ := hrel
    cases gk with
    | zero => exact absurd HA.out (by simp [laws_heldIntS.l0])
    | succ k1 =>
      have H := HA.out
      clear HA
      simp only [laws_heldIntS.l0] at H
      by_cases c3 : x5_1 < (l0.length : Int)
      · rw [if_pos c3] at H
        have c3b0 : decide (x5_1 < (l0.length : Int)) = true := decide_eq_true c3
        clear c3
        by_cases c4 : 0 ≤ x5_1
        · rw [if_pos c4] at H
          have c4b0 : decide (0 ≤ x5_1) = true := decide_eq_true c4
          clear c4
          by_cases c5 : (rd l0 x5_1) = x1_1
          · rw [if_pos c5] at H
            have c5b0 : ((rd l0 x5_1) == x1_1) = true := beq_iff_eq.mpr c5
            have c5b1 : ((rd l0 x5_1) != x1_1) = false := bne_eq_false_iff_eq.mpr c5
            clear c5
            have H' := Aside0.mk H
            clear H
            have p188 : 0 ≤ (x5_1 : Int) := of_decide_eq_true (by first | (with_reducible assumption) | assumption)
            have q188 : x5_1 < (l0.length : Int) := of_decide_eq_true (by first | (with_reducible assumption) | assumption)
            obtain ⟨ad188, e188, hx188_0⟩ := Kd.at_int HR0.out x5_1 p188 q188
            cases e188
            replace p188 := eq_true p188
            replace q188 := eq_true q188
            go_wp2
            go_roundg k1
            case measure => have := HK1.out; omega
            case rel => exact ⟨(wrap64 (x1_1 + 1)), (wrap64 (x5_1 + 1)), (by first | rfl | (simp; done) | (simp [*]; done)), (by first | rfl | (simp; done) | (simp [*]; done)), H', ⟨by have := HK1.out; omega⟩, by repeat (first | exact Drawn0.refl _ | apply Drawn0.step)⟩
          · rw [if_neg c5] at H
            have c5b0 : ((rd l0 x5_1) == x1_1) = false := beq_eq_false_iff_ne.mpr c5
            have c5b1 : ((rd l0 x5_1) != x1_1) = true := bne_iff_ne.mpr c5
            obtain rfl := Option.some.inj H
            have p188 : 0 ≤ (x5_1 : Int) := of_decide_eq_true (by first | (with_reducible assumption) | assumption)
            have q188 : x5_1 < (l0.length : Int) := of_decide_eq_true (by first | (with_reducible assumption) | assumption)
            obtain ⟨ad188, e188, hx188_0⟩ := Kd.at_int HR0.out x5_1 p188 q188
            cases e188
            replace p188 := eq_true p188
            replace q188 := eq_true q188
            go_wp2
            go_ret
            exact ⟨by first | rfl | (simp; done) | (simp [*]; done), by repeat (first | exact Drawn0.refl _ | apply Drawn0.step)⟩
        · rw [if_neg c4] at H
          exact absurd H (by simp)
      · rw [if_neg c3] at H
        have c3b0 : decide (x5_1 < (l0.length : Int)) = false := decide_eq_false c3
        clear c3
        obtain rfl := Option.some.inj H
        go_wp2
        go_ret
        exact ⟨by first | rfl | (simp; done) | (simp [*]; done), by repeat (first | exact Drawn0.refl _ | apply Drawn0.step)⟩

/-! ### laws_FnExactPropagate: function 5 -/
def lawP_T : Bool × List (List Nat × List Nat) := (true, [([], []), ([], []), ([1], [1]), ([0, 2, 2], [0, 2]), ([3], [3])])
def lawP_B : List Nat := [0, 0, 2, 7, 15]
theorem lawP_tab : rtab .any (opsOf Try.f5 13) = lawP_T := by kernel_rfl
theorem lawP_bits : waitsOk lawP_T.2 lawP_B = true := by kernel_rfl
theorem heldI_at (kf : Nat) (A : Option Addr) (c : Nat) (G : List Int) (n : Nat) (hn : G.length = n) (a r : Int) (w : World) (hR : Kd.C (Kd.int .i64) w A G.length G) (hc : n ≤ c) (h : laws_heldIntS.f kf G a = some r) : Calls Try.prog 28 #[.slice A n c, .int .i64 a] w fun e w' => e = .returned (.int .i64 r) ∧ Drawn0 w w' := by
  subst hn
  exact laws_heldIntS.calls kf A c G a r w hR hc h
def laws_FnExactPropagate.f (kf : Nat) (a0_0 : Int) (l0_1 : List (List Int)) (l1 : List Int) : Option Bool :=
  if (l1.length : Int) > 1048576 then some true else
  (laws_szCnf.f kf a0_0 l0_1 1048576).bind fun t => if t < 0 then some true else
  (laws_toCnf.f kf a0_0 l0_1).bind fun q => (laws_toIntS.f kf l1).bind fun ti => (spec_Propagate.f kf a0_0 l0_1 l1).bind fun s => (impl_Propagate.f kf a0_0 l0_1 l1).bind fun g => (laws_eqIntS.f kf s.1 s.1).bind fun b1 => (laws_eqCnf.f kf a0_0 l0_1 a0_0 l0_1).bind fun b2 => (laws_eqIntS.f kf l1 l1).bind fun b3 => (laws_markIntS.f kf s.1 1).bind fun m => (laws_heldIntS.f kf m.2 1).bind fun h =>
  if q = (a0_0, l0_1) ∧ l1 = ti ∧ g = s ∧ b1 = true ∧ b2 = true ∧ b3 = true ∧ h = m.1 ∧ 0 ≤ m.1 ∧ sumL l0_1 ≤ 1099511627776 ∧ m.2.length = s.1.length then some true else none
set_option maxHeartbeats 4000000 in
set_option maxRecDepth 100000 in
theorem laws_FnExactPropagate.calls (kf : Nat) (a0_0 : Int) (A0_1 : Option Addr) (c0_1 : Nat) (l0_1 : List (List Int)) (A1 : Option Addr) (c1 : Nat) (l1 : List Int) (r : Bool) (w : World) (hr0_1 : Kd.C (Kd.slice 3 (Kd.int .i64)) w A0_1 l0_1.length l0_1) (hc0_1 : l0_1.length ≤ c0_1) (hr1 : Kd.C (Kd.int .i64) w A1 l1.length l1) (hc1 : l1.length ≤ c1) (h : laws_FnExactPropagate.f kf a0_0 l0_1 l1 = some r) :
    Calls Try.prog 5 #[.agg #[.int .i64 a0_0, .slice A0_1 l0_1.length c0_1], .slice A1 l1.length c1] w fun e w' => e = .returned (.bool r) ∧ Below w.heap.size w w' := by
  have hu_lCnf := Try.underlying24
  have hu_Cnf := Try.underlying30
  unfold laws_FnExactPropagate.f at h
  have hb1 : Below w.heap.size w (w.alloc (.cells #[.int .i64 a0_0, .slice A0_1 l0_1.length c0_1] 24)) := (Below.refl _ _).alloc (Nat.le_refl _) _
  have hW : (w.alloc (.cells #[.int .i64 a0_0, .slice A0_1 l0_1.length c0_1] 24)).heap[w.heap.size]? = some (.cells #[.int .i64 a0_0, .slice A0_1 l0_1.length c0_1] 24 (0, 0)) := by
    show (w.heap.push _)[w.heap.size]? = _
    simp
  obtain ⟨W1, hW1, BX, HB1⟩ : ∃ W1, w.alloc (.cells #[.int .i64 a0_0, .slice A0_1 l0_1.length c0_1] 24) = W1 ∧ W1.heap[w.heap.size]? = some (.cells #[.int .i64 a0_0, .slice A0_1 l0_1.length c0_1] 24 (0, 0)) ∧ Below w.heap.size w W1 := ⟨_, rfl, hW, hb1⟩
  have FA := Aside0.mk (foot_and (foot_blk (ok := fun k_ => k_ < W1.heap.size) BX (blk_lt BX)) (foot_and (foot_C (Kd.heap_slice 3 (Kd.heap_int .i64)) (Kd.C_below hr0_1 HB1)) (foot_C (Kd.heap_int .i64) (Kd.C_below hr1 HB1))))
  have HB := Aside0.mk HB1
  have HQ := Aside0.mk (Nat.le_refl W1.heap.size)
  have HW1 := Aside0.mk hW1
  clear hb1 hW hW1 BX HB1 hr0_1 hr1
  by_cases hbig : (l1.length : Int) > 1048576
  · rw [if_pos hbig] at h
    obtain rfl := Option.some.inj h
    clear h
    go_enter Try.func5, Try.ntmps5
    go_wp2
    go_ret
    exact ⟨rfl, by rw [HW1.out]; exact HB.out⟩
  · rw [if_neg hbig] at h
    replace h := Option.bind_eq_some_iff.1 h
    obtain ⟨t, hsz, h⟩ := h
    by_cases ht : t < 0
    · rw [if_pos ht] at h
      obtain rfl := Option.some.inj h
      clear h
      go_enter Try.func5, Try.ntmps5
      go_upto_region 4 with fail
      rw [HW1.out]
      clear HW1
      have hcx := FA.out.now.1
      have hx0 := (blk_cell hcx 0).trans (show _ = some (.int .i64 a0_0) from rfl)
      have hx1 := (blk_cell hcx 1).trans (show _ = some (.slice A0_1 l0_1.length c0_1) from rfl)
      go_wp2_with (go_at_call 12; refine (laws_szCnf.calls kf a0_0 A0_1 c0_1 l0_1 1048576 t W1 FA.out.now.2.1 hc0_1 hsz).mono ?_; rintro e w2 ⟨rfl, hb⟩)
      go_ret
      exact ⟨rfl, HB.out.trans (hb.mono HB.out.size)⟩
    · rw [if_neg ht] at h
      replace h := Option.bind_eq_some_iff.1 h
      obtain ⟨q, hto, h⟩ := h
      replace h := Option.bind_eq_some_iff.1 h
      obtain ⟨ti, hti, h⟩ := h
      replace h := Option.bind_eq_some_iff.1 h
      obtain ⟨⟨W0, s1, s2⟩, hsp, h⟩ := h
      replace h := Option.bind_eq_some_iff.1 h
      obtain ⟨g, him, h⟩ := h
      replace h := Option.bind_eq_some_iff.1 h
      obtain ⟨b1, heb, h⟩ := h
      replace h := Option.bind_eq_some_iff.1 h
      obtain ⟨b2, hec, h⟩ := h
      replace h := Option.bind_eq_some_iff.1 h
      obtain ⟨b3, hei, h⟩ := h
      replace h := Option.bind_eq_some_iff.1 h
      obtain ⟨⟨m, G⟩, hmb, h⟩ := h
      replace h := Option.bind_eq_some_iff.1 h
      obtain ⟨hh, hhb, h⟩ := h
      simp only at heb hmb hhb h
      by_cases hc : q = (a0_0, l0_1) ∧ l1 = ti ∧ g = (W0, s1, s2) ∧ b1 = true ∧ b2 = true ∧ b3 = true ∧ hh = m ∧ 0 ≤ m ∧ sumL l0_1 ≤ 1099511627776 ∧ G.length = W0.length
      · rw [if_pos hc] at h
        obtain ⟨rfl, rfl, rfl, rfl, rfl, rfl, rfl, hm0, hsum, hGl⟩ := hc
        obtain rfl := Option.some.inj h
        clear h
        have hne : (s1 != s1) = false := by simp
        have hne1 : (s2 != s2) = false := by simp
        have hne2 : (hh != hh) = false := by simp
        go_enter Try.func5, Try.ntmps5
        go_upto_region 4 with fail
        rw [HW1.out]
        clear HW1
        have hcx := FA.out.now.1
        have hx0 := (blk_cell hcx 0).trans (show _ = some (.int .i64 a0_0) from rfl)
        have hx1 := (blk_cell hcx 1).trans (show _ = some (.slice A0_1 l0_1.length c0_1) from rfl)
        go_upto_region 7 with (go_at_call 12; refine (laws_szCnf.calls kf a0_0 A0_1 c0_1 l0_1 1048576 t W1 FA.out.now.2.1 hc0_1 hsz).mono ?_; rintro e w2 ⟨rfl, hb⟩; clear hcx hx0 hx1; have mFA_ := Aside0.mk (foot_below FA.out hb); have mB_ := Aside0.mk (HB.out.trans (hb.mono HB.out.size)); have mQ_ := Aside0.mk (Nat.le_trans HQ.out hb.size); clear FA HB HQ; have FA := mFA_; have HB := mB_; have HQ := mQ_; clear mFA_ mB_ mQ_; have hcx := FA.out.now.1; have hx0 := (blk_cell hcx 0).trans (show _ = some (.int .i64 a0_0) from rfl); have hx1 := (blk_cell hcx 1).trans (show _ = some (.slice A0_1 l0_1.length c0_1) from rfl); clear hb)
        go_upto_region 8 with (first
          | (go_at_call 15; refine (laws_toCnf.calls kf a0_0 A0_1 c0_1 l0_1 a0_0 l0_1 _ FA.out.now.2.1 hc0_1 hto).mono ?_; rintro e w3 ⟨v3, rfl, hS3, hb⟩; clear hcx hx0 hx1; have mFA_ := Aside0.mk (foot_below FA.out hb); have mB_ := Aside0.mk (HB.out.trans (hb.mono HB.out.size)); have mQ_ := Aside0.mk (Nat.le_trans HQ.out hb.size); clear FA HB HQ; have FA := mFA_; have HB := mB_; have HQ := mQ_; clear mFA_ mB_ mQ_; have hcx := FA.out.now.1; have hx0 := (blk_cell hcx 0).trans (show _ = some (.int .i64 a0_0) from rfl); have hx1 := (blk_cell hcx 1).trans (show _ = some (.slice A0_1 l0_1.length c0_1) from rfl); clear hb; obtain ⟨A3, c3, ev_, hl3, hC3⟩ := Kd.R_reads (Kd.S_R hS3); clear hS3; subst ev_)
          | (go_at_call 21; refine (laws_toIntS.calls kf A1 c1 l1 l1 _ FA.out.now.2.2 hc1 hti).mono ?_; rintro e w3b ⟨v3, rfl, hS3, hb⟩; clear hcx hx0 hx1; have mFA_ := Aside0.mk (foot_below FA.out hb); have mB_ := Aside0.mk (HB.out.trans (hb.mono HB.out.size)); have mQ_ := Aside0.mk (Nat.le_trans HQ.out hb.size); clear FA HB HQ; have FA := mFA_; have HB := mB_; have HQ := mQ_; clear mFA_ mB_ mQ_; have hcx := FA.out.now.1; have hx0 := (blk_cell hcx 0).trans (show _ = some (.int .i64 a0_0) from rfl); have hx1 := (blk_cell hcx 1).trans (show _ = some (.slice A0_1 l0_1.length c0_1) from rfl); have hC3 := Kd.C_below hC3 hb; clear hb; obtain ⟨A3b, c3b, ev_, hl3b, hC3b⟩ := Kd.R_reads hS3; clear hS3; subst ev_; have HB3 := HB)
          | (go_at_call 24; refine (spec_Propagate.calls kf a0_0 A3 c3 l0_1 A3b c3b l1 W0 s1 s2 w3b hC3 hl3 hC3b hl3b hsp).mono ?_; rintro e w4 ⟨v4, rfl, hR4, hb⟩; clear hC3 hl3 hC3b hl3b; clear hcx hx0 hx1; have mFA_ := Aside0.mk (foot_below FA.out hb); have mB_ := Aside0.mk (HB.out.trans (hb.mono HB.out.size)); have mQ_ := Aside0.mk (Nat.le_trans HQ.out hb.size); clear FA HB HQ; have FA := mFA_; have HB := mB_; have HQ := mQ_; clear mFA_ mB_ mQ_; have hcx := FA.out.now.1; have hx0 := (blk_cell hcx 0).trans (show _ = some (.int .i64 a0_0) from rfl); have hx1 := (blk_cell hcx 1).trans (show _ = some (.slice A0_1 l0_1.length c0_1) from rfl); clear hb; obtain ⟨A4, c4, ev4⟩ := Kd.R_slice hR4; subst ev4; have FW := Aside0.mk (foot_R (Kd.R_mono (ok' := fun k_ => k_ < w4.heap.size) (Kd.R_bound (Kd.R_lower hR4 HB3.out.size)) (fun k_ hk_ => hk_.2.2.1))); clear hR4 HB3))
        go_upto_region 9 with (go_at_call 15; refine (laws_toCnf.calls kf a0_0 A0_1 c0_1 l0_1 a0_0 l0_1 _ FA.out.now.2.1 hc0_1 hto).mono ?_; rintro e w5 ⟨v5, rfl, hS5, hb⟩; have HS5 := Aside0.mk (foot_S (Kd.S_mono (ok' := fun k_ => w4.heap.size ≤ k_ ∧ k_ < w5.heap.size) (Kd.S_lower (Kd.S_bound hS5) HB.out.size) (fun k_ hk_ => ⟨hk_.2.1, hk_.2.2.1⟩))); have HL5 := Aside0.mk hb.size; have HLE := Aside0.mk HQ.out; clear hcx hx0 hx1; have mFA_ := Aside0.mk (foot_below FA.out hb); have mFW_ := Aside0.mk (foot_below FW.out hb); have mB_ := Aside0.mk (HB.out.trans (hb.mono HB.out.size)); have mQ_ := Aside0.mk (Nat.le_trans HQ.out hb.size); clear FA FW HB HQ; have FA := mFA_; have FW := mFW_; have HB := mB_; have HQ := mQ_; clear mFA_ mFW_ mB_ mQ_; have hcx := FA.out.now.1; have hx0 := (blk_cell hcx 0).trans (show _ = some (.int .i64 a0_0) from rfl); have hx1 := (blk_cell hcx 1).trans (show _ = some (.slice A0_1 l0_1.length c0_1) from rfl); clear hb; obtain ⟨A5, c5, ev5⟩ := Kd.R_slice (Kd.S_R hS5); clear hS5; subst ev5)
        have hb6 := (below_alloc (Below.refl w5.heap.size w5) (.cells #[.int .i64 a0_0, .slice A5 l0_1.length c5] 30))
        have hg6 := blk_new w5 (.cells #[.int .i64 a0_0, .slice A5 l0_1.length c5] 30)
        generalize w5.alloc (.cells #[.int .i64 a0_0, .slice A5 l0_1.length c5] 30) = w6 at hb6 hg6 ⊢
        have HG6 := Aside0.mk (foot_blk (ok := fun k_ => w4.heap.size ≤ k_ ∧ k_ < w6.heap.size) hg6 ⟨HL5.out, blk_lt hg6⟩)
        have hgx0 := (blk_cell hg6 0).trans (show _ = some (.int .i64 a0_0) from rfl)
        have hgx1 := (blk_cell hg6 1).trans (show _ = some (.slice A5 l0_1.length c5) from rfl)
        have H6 := Aside0.mk hb6.size
        clear hcx hx0 hx1
        have mFA_ := Aside0.mk (foot_below FA.out hb6)
        have mFW_ := Aside0.mk (foot_below FW.out hb6)
        have mHS5_ := Aside0.mk (foot_below HS5.out hb6)
        have mB_ := Aside0.mk (HB.out.trans (hb6.mono HB.out.size))
        have mQ_ := Aside0.mk (Nat.le_trans HQ.out hb6.size)
        clear FA FW HS5 HB HQ
        have FA := mFA_
        have FW := mFW_
        have HS5 := mHS5_
        have HB := mB_
        have HQ := mQ_
        clear mFA_ mFW_ mHS5_ mB_ mQ_
        have hcx := FA.out.now.1
        have hx0 := (blk_cell hcx 0).trans (show _ = some (.int .i64 a0_0) from rfl)
        have hx1 := (blk_cell hcx 1).trans (show _ = some (.slice A0_1 l0_1.length c0_1) from rfl)
        clear hb6 hg6
        go_upto_region 10 with (go_at_call 21; refine (laws_toIntS.calls kf A1 c1 l1 l1 _ FA.out.now.2.2 hc1 hti).mono ?_; rintro e w7 ⟨v6, rfl, hR6, hb⟩; have HX1 := Aside0.mk (foot_R (Kd.R_lower (Kd.R_mono (ok' := fun k_ => w6.heap.size ≤ k_ ∧ k_ < w7.heap.size) (Kd.R_bound hR6) (fun k_ hk_ => ⟨hk_.2.1, hk_.2.2.1⟩)) HB.out.size)); have H7 := Aside0.mk hb.size; clear hcx hx0 hx1; clear hgx0 hgx1; have mFA_ := Aside0.mk (foot_below FA.out hb); have mFW_ := Aside0.mk (foot_below FW.out hb); have mHS5_ := Aside0.mk (foot_below HS5.out hb); have mHG6_ := Aside0.mk (foot_below HG6.out hb); have mB_ := Aside0.mk (HB.out.trans (hb.mono HB.out.size)); have mQ_ := Aside0.mk (Nat.le_trans HQ.out hb.size); clear FA FW HS5 HG6 HB HQ; have FA := mFA_; have FW := mFW_; have HS5 := mHS5_; have HG6 := mHG6_; have HB := mB_; have HQ := mQ_; clear mFA_ mFW_ mHS5_ mHG6_ mB_ mQ_; have hcx := FA.out.now.1; have hx0 := (blk_cell hcx 0).trans (show _ = some (.int .i64 a0_0) from rfl); have hx1 := (blk_cell hcx 1).trans (show _ = some (.slice A0_1 l0_1.length c0_1) from rfl); have hgx0 := (blk_cell HG6.out.now 0).trans (show _ = some (.int .i64 a0_0) from rfl); have hgx1 := (blk_cell HG6.out.now 1).trans (show _ = some (.slice A5 l0_1.length c5) from rfl); clear hb; obtain ⟨A6, c6, ev6⟩ := Kd.R_slice hR6; clear hR6; subst ev6)
        go_upto_region 11 with (go_at_call 25; refine (impl_Propagate.calls kf a0_0 A5 c5 l0_1 A6 c6 l1 W0 s1 s2 w7 (Kd.R_reads' (Kd.S_R HS5.out.now)).2.2 (Kd.R_reads' (Kd.S_R HS5.out.now)).2.1 (Kd.R_reads' HX1.out.now).2.2 (Kd.R_reads' HX1.out.now).2.1 him).mono ?_; rintro e w8 ⟨v7, rfl, hR7, hb⟩; have HR7 := Aside0.mk (foot_R (Kd.R_lower (Kd.R_mono (ok' := fun k_ => w7.heap.size ≤ k_) (Kd.R_bound hR7) (fun k_ hk_ => hk_.2.1)) HB.out.size)); clear hcx hx0 hx1; clear hgx0 hgx1; have mFA_ := Aside0.mk (foot_below FA.out hb); have mFW_ := Aside0.mk (foot_below FW.out hb); have mHS5_ := Aside0.mk (foot_below HS5.out hb); have mHG6_ := Aside0.mk (foot_below HG6.out hb); have mHX1_ := Aside0.mk (foot_below HX1.out hb); have mB_ := Aside0.mk (HB.out.trans (hb.mono HB.out.size)); have mQ_ := Aside0.mk (Nat.le_trans HQ.out hb.size); clear FA FW HS5 HG6 HX1 HB HQ; have FA := mFA_; have FW := mFW_; have HS5 := mHS5_; have HG6 := mHG6_; have HX1 := mHX1_; have HB := mB_; have HQ := mQ_; clear mFA_ mFW_ mHS5_ mHG6_ mHX1_ mB_ mQ_; have hcx := FA.out.now.1; have hx0 := (blk_cell hcx 0).trans (show _ = some (.int .i64 a0_0) from rfl); have hx1 := (blk_cell hcx 1).trans (show _ = some (.slice A0_1 l0_1.length c0_1) from rfl); have hgx0 := (blk_cell HG6.out.now 0).trans (show _ = some (.int .i64 a0_0) from rfl); have hgx1 := (blk_cell HG6.out.now 1).trans (show _ = some (.slice A5 l0_1.length c5) from rfl); clear hb; obtain ⟨A7, c7, ev7⟩ := Kd.R_slice hR7; subst ev7; clear hR7)
        go_upto_region 13 with (go_at_call 23; refine (laws_eqIntS.calls kf A7 c7 W0 A4 c4 W0 true _ (Kd.R_reads' HR7.out.now).2.2 (Kd.R_reads' HR7.out.now).2.1 (Kd.R_reads' FW.out.now).2.2 (Kd.R_reads' FW.out.now).2.1 heb).mono ?_; rintro e w9 ⟨rfl, hd⟩; have hb := drawn_below hd; clear hd; clear hcx hx0 hx1; clear hgx0 hgx1; have mFA_ := Aside0.mk (foot_below FA.out hb); have mFW_ := Aside0.mk (foot_below FW.out hb); have mHS5_ := Aside0.mk (foot_below HS5.out hb); have mHG6_ := Aside0.mk (foot_below HG6.out hb); have mHX1_ := Aside0.mk (foot_below HX1.out hb); have mHR7_ := Aside0.mk (foot_below HR7.out hb); have mB_ := Aside0.mk (HB.out.trans (hb.mono HB.out.size)); have mQ_ := Aside0.mk (Nat.le_trans HQ.out hb.size); clear FA FW HS5 HG6 HX1 HR7 HB HQ; have FA := mFA_; have FW := mFW_; have HS5 := mHS5_; have HG6 := mHG6_; have HX1 := mHX1_; have HR7 := mHR7_; have HB := mB_; have HQ := mQ_; clear mFA_ mFW_ mHS5_ mHG6_ mHX1_ mHR7_ mB_ mQ_; have hcx := FA.out.now.1; have hx0 := (blk_cell hcx 0).trans (show _ = some (.int .i64 a0_0) from rfl); have hx1 := (blk_cell hcx 1).trans (show _ = some (.slice A0_1 l0_1.length c0_1) from rfl); have hgx0 := (blk_cell HG6.out.now 0).trans (show _ = some (.int .i64 a0_0) from rfl); have hgx1 := (blk_cell HG6.out.now 1).trans (show _ = some (.slice A5 l0_1.length c5) from rfl); clear hb)
        have hbd := below_drew (Below.refl w9.heap.size w9)
        clear hcx hx0 hx1
        clear hgx0 hgx1
        have mFA_ := Aside0.mk (foot_below FA.out hbd)
        have mFW_ := Aside0.mk (foot_below FW.out hbd)
        have mHS5_ := Aside0.mk (foot_below HS5.out hbd)
        have mHG6_ := Aside0.mk (foot_below HG6.out hbd)
        have mHX1_ := Aside0.mk (foot_below HX1.out hbd)
        have mHR7_ := Aside0.mk (foot_below HR7.out hbd)
        have mB_ := Aside0.mk (HB.out.trans (hbd.mono HB.out.size))
        have mQ_ := Aside0.mk (Nat.le_trans HQ.out hbd.size)
        clear FA FW HS5 HG6 HX1 HR7 HB HQ
        have FA := mFA_
        have FW := mFW_
        have HS5 := mHS5_
        have HG6 := mHG6_
        have HX1 := mHX1_
        have HR7 := mHR7_
        have HB := mB_
        have HQ := mQ_
        clear mFA_ mFW_ mHS5_ mHG6_ mHX1_ mHR7_ mB_ mQ_
        have hcx := FA.out.now.1
        have hx0 := (blk_cell hcx 0).trans (show _ = some (.int .i64 a0_0) from rfl)
        have hx1 := (blk_cell hcx 1).trans (show _ = some (.slice A0_1 l0_1.length c0_1) from rfl)
        have hgx0 := (blk_cell HG6.out.now 0).trans (show _ = some (.int .i64 a0_0) from rfl)
        have hgx1 := (blk_cell HG6.out.now 1).trans (show _ = some (.slice A5 l0_1.length c5) from rfl)
        clear hbd
        generalize hw9 : w9.drew = w10 at *
        refine start_ (n := 5) (S := fun w' => w'.cell? ⟨w.heap.size, 0, none⟩ = some (.int .i64 a0_0) ∧ w'.cell? ⟨w.heap.size, 1, none⟩ = some (.slice A0_1 l0_1.length c0_1) ∧ w'.cell? ⟨w5.heap.size, 0, none⟩ = some (.int .i64 a0_0) ∧ w'.cell? ⟨w5.heap.size, 1, none⟩ = some (.slice A5 l0_1.length c5)) (ds := []) #[false, false, false, false, false] (by kernel_rfl) rfl rfl (by rw [hw9]; exact ⟨hx0, hx1, hgx0, hgx1⟩) (fun hHeld => ?_)
        refine with_tabW lawP_tab lawP_bits (fun HT_ HW_ => ?_)
        rw [hw9] at hHeld ⊢
        clear hw9
        refine take_ (i := 0) (N := some 62) (v := ?_) (a' := ?_) #[true, false, false, false, false] rfl rfl (take_ofW HT_.out HW_.out (by kernel_rfl)) (fun _ _ _ h => h) (Or.inl ⟨by rfl, ?_⟩) hHeld ?_ ?_
        rotate_left
        · rintro w' ⟨s0, s1, s2, s3⟩
          go_simp
          with_reducible rfl
        rotate_left
        · simp only [Act.put, List.setIfInBounds_toArray, List.set_cons_zero, List.set_cons_succ, i64_w, i32_w]
          rfl
        refine take_ (i := 1) (N := some 63) (v := ?_) (a' := ?_) #[true, true, false, false, false] rfl rfl (take_ofW HT_.out HW_.out (by kernel_rfl)) (fun _ _ _ h => h) (Or.inl ⟨by rfl, ?_⟩) hHeld ?_ ?_
        rotate_left
        · rintro w' ⟨s0, s1, s2, s3⟩
          go_simp
          with_reducible rfl
        rotate_left
        · simp only [Act.put, List.setIfInBounds_toArray, List.set_cons_zero, List.set_cons_succ, i64_w, i32_w]
          rfl
        refine one_ (i := 2) (N := some 64) #[true, true, true, false, false] rfl rfl (one_of HT_.out (by kernel_rfl)) (by decide) (fun K hK => ?_)
        refine call_ 15 #[.agg #[.int .i64 a0_0, .slice A0_1 l0_1.length c0_1]] (by rfl) rfl ?hrun2 ?h2
        case hrun2 =>
          have he := enters_of Try.func15 (by kernel_rfl) rfl
          unfold execOp
          simp [resolve, Deferred.ofValue, invoke, Act.eval, he]
        refine (laws_toCnf.calls kf a0_0 A0_1 c0_1 l0_1 a0_0 l0_1 _ FA.out.now.2.1 hc0_1 hto).mono ?_
        rintro e w11 ⟨v10, rfl, hS10, hb⟩
        refine ⟨_, rfl, ?_⟩
        clear hcx hx0 hx1
        clear hgx0 hgx1
        have mFA_ := Aside0.mk (foot_below FA.out hb)
        have mFW_ := Aside0.mk (foot_below FW.out hb)
        have mHS5_ := Aside0.mk (foot_below HS5.out hb)
        have mHG6_ := Aside0.mk (foot_below HG6.out hb)
        have mHX1_ := Aside0.mk (foot_below HX1.out hb)
        have mHR7_ := Aside0.mk (foot_below HR7.out hb)
        have mB_ := Aside0.mk (HB.out.trans (hb.mono HB.out.size))
        have mQ_ := Aside0.mk (Nat.le_trans HQ.out hb.size)
        clear FA FW HS5 HG6 HX1 HR7 HB HQ
        have FA := mFA_
        have FW := mFW_
        have HS5 := mHS5_
        have HG6 := mHG6_
        have HX1 := mHX1_
        have HR7 := mHR7_
        have HB := mB_
        have HQ := mQ_
        clear mFA_ mFW_ mHS5_ mHG6_ mHX1_ mHR7_ mB_ mQ_
        have hcx := FA.out.now.1
        have hx0 := (blk_cell hcx 0).trans (show _ = some (.int .i64 a0_0) from rfl)
        have hx1 := (blk_cell hcx 1).trans (show _ = some (.slice A0_1 l0_1.length c0_1) from rfl)
        have hgx0 := (blk_cell HG6.out.now 0).trans (show _ = some (.int .i64 a0_0) from rfl)
        have hgx1 := (blk_cell HG6.out.now 1).trans (show _ = some (.slice A5 l0_1.length c5) from rfl)
        clear hb
        obtain ⟨A10, c10, ev_, hl10, hC10⟩ := Kd.R_reads (Kd.S_R hS10)
        clear hS10
        subst ev_
        refine hK.out _ _ ⟨hx0, hx1, hgx0, hgx1⟩ (fun hHeld => ?_)
        clear hK K
        refine norm_ (a' := ?_) ?_ ?_
        rotate_left
        · show Act.put _ (some 64) _ = _
          simp only [Act.put, List.setIfInBounds_toArray, List.set_cons_zero, List.set_cons_succ, i64_w, i32_w]
          rfl
        refine one_ (i := 3) (N := some 65) #[true, true, true, true, false] rfl rfl (one_of HT_.out (by kernel_rfl)) (by decide) (fun K hK => ?_)
        refine call_ 18 #[.agg #[.int .i64 a0_0, .slice A5 l0_1.length c5], .agg #[.int .i64 a0_0, .slice A10 l0_1.length c10]] (by rfl) rfl ?hrun3 ?h3
        case hrun3 =>
          have he := enters_of Try.func18 (by kernel_rfl) rfl
          unfold execOp
          simp [resolve, Deferred.ofValue, invoke, Act.eval, he]
        refine (laws_eqCnf.calls kf a0_0 A5 c5 l0_1 a0_0 A10 c10 l0_1 true w11 (Kd.R_reads' (Kd.S_R HS5.out.now)).2.2 (Kd.R_reads' (Kd.S_R HS5.out.now)).2.1 hC10 hl10 hec).mono ?_
        rintro e w12 ⟨rfl, hb⟩
        refine ⟨_, rfl, ?_⟩
        clear hC10 hl10
        clear hcx hx0 hx1
        clear hgx0 hgx1
        have mFA_ := Aside0.mk (foot_below FA.out hb)
        have mFW_ := Aside0.mk (foot_below FW.out hb)
        have mHS5_ := Aside0.mk (foot_below HS5.out hb)
        have mHG6_ := Aside0.mk (foot_below HG6.out hb)
        have mHX1_ := Aside0.mk (foot_below HX1.out hb)
        have mHR7_ := Aside0.mk (foot_below HR7.out hb)
        have mB_ := Aside0.mk (HB.out.trans (hb.mono HB.out.size))
        have mQ_ := Aside0.mk (Nat.le_trans HQ.out hb.size)
        clear FA FW HS5 HG6 HX1 HR7 HB HQ
        have FA := mFA_
        have FW := mFW_
        have HS5 := mHS5_
        have HG6 := mHG6_
        have HX1 := mHX1_
        have HR7 := mHR7_
        have HB := mB_
        have HQ := mQ_
        clear mFA_ mFW_ mHS5_ mHG6_ mHX1_ mHR7_ mB_ mQ_
        have hcx := FA.out.now.1
        have hx0 := (blk_cell hcx 0).trans (show _ = some (.int .i64 a0_0) from rfl)
        have hx1 := (blk_cell hcx 1).trans (show _ = some (.slice A0_1 l0_1.length c0_1) from rfl)
        have hgx0 := (blk_cell HG6.out.now 0).trans (show _ = some (.int .i64 a0_0) from rfl)
        have hgx1 := (blk_cell HG6.out.now 1).trans (show _ = some (.slice A5 l0_1.length c5) from rfl)
        clear hb
        refine hK.out _ _ ⟨hx0, hx1, hgx0, hgx1⟩ (fun hHeld => ?_)
        clear hK K
        refine norm_ (a' := ?_) ?_ ?_
        rotate_left
        · show Act.put _ (some 65) _ = _
          simp only [Act.put, List.setIfInBounds_toArray, List.set_cons_zero, List.set_cons_succ, i64_w, i32_w]
          rfl
        refine pure_ (i := 4) (N := some 66) (v := ?_) (a' := ?_) #[true, true, true, true, true] rfl rfl (any_of HT_.out (by kernel_rfl)) (fun _ _ _ h => h) (Or.inl ⟨by rfl, ?_⟩) ?_ ?_
        rotate_left
        · intro w'
          go_simp
          with_reducible rfl
        rotate_left
        · simp only [Act.put, List.setIfInBounds_toArray, List.set_cons_zero, List.set_cons_succ, i64_w, i32_w]
          rfl
        refine done_ (done_of HT_.out (by kernel_rfl)) ?_
        clear hHeld HT_ HW_
        go_upto_region 18 with (first
          | (go_at_call 21; refine (laws_toIntS.calls kf A1 c1 l1 l1 _ FA.out.now.2.2 hc1 hti).mono ?_; rintro e w13 ⟨v13, rfl, hR13, hb⟩; clear hcx hx0 hx1; clear hgx0 hgx1; have mFA_ := Aside0.mk (foot_below FA.out hb); have mFW_ := Aside0.mk (foot_below FW.out hb); have mHS5_ := Aside0.mk (foot_below HS5.out hb); have mHG6_ := Aside0.mk (foot_below HG6.out hb); have mHX1_ := Aside0.mk (foot_below HX1.out hb); have mHR7_ := Aside0.mk (foot_below HR7.out hb); have mB_ := Aside0.mk (HB.out.trans (hb.mono HB.out.size)); have mQ_ := Aside0.mk (Nat.le_trans HQ.out hb.size); clear FA FW HS5 HG6 HX1 HR7 HB HQ; have FA := mFA_; have FW := mFW_; have HS5 := mHS5_; have HG6 := mHG6_; have HX1 := mHX1_; have HR7 := mHR7_; have HB := mB_; have HQ := mQ_; clear mFA_ mFW_ mHS5_ mHG6_ mHX1_ mHR7_ mB_ mQ_; have hcx := FA.out.now.1; have hx0 := (blk_cell hcx 0).trans (show _ = some (.int .i64 a0_0) from rfl); have hx1 := (blk_cell hcx 1).trans (show _ = some (.slice A0_1 l0_1.length c0_1) from rfl); have hgx0 := (blk_cell HG6.out.now 0).trans (show _ = some (.int .i64 a0_0) from rfl); have hgx1 := (blk_cell HG6.out.now 1).trans (show _ = some (.slice A5 l0_1.length c5) from rfl); clear hb; obtain ⟨A13, c13, ev_, hl13, hC13⟩ := Kd.R_reads hR13; clear hR13; subst ev_)
          | (go_at_call 23; refine (laws_eqIntS.calls kf A6 c6 l1 A13 c13 l1 true w13 (Kd.R_reads' HX1.out.now).2.2 (Kd.R_reads' HX1.out.now).2.1 hC13 hl13 hei).mono ?_; rintro e w14 ⟨rfl, hd⟩; clear hC13 hl13; have hb := drawn_below hd; clear hd; clear hcx hx0 hx1; clear hgx0 hgx1; have mFA_ := Aside0.mk (foot_below FA.out hb); have mFW_ := Aside0.mk (foot_below FW.out hb); have mHS5_ := Aside0.mk (foot_below HS5.out hb); have mHG6_ := Aside0.mk (foot_below HG6.out hb); have mHX1_ := Aside0.mk (foot_below HX1.out hb); have mHR7_ := Aside0.mk (foot_below HR7.out hb); have mB_ := Aside0.mk (HB.out.trans (hb.mono HB.out.size)); have mQ_ := Aside0.mk (Nat.le_trans HQ.out hb.size); clear FA FW HS5 HG6 HX1 HR7 HB HQ; have FA := mFA_; have FW := mFW_; have HS5 := mHS5_; have HG6 := mHG6_; have HX1 := mHX1_; have HR7 := mHR7_; have HB := mB_; have HQ := mQ_; clear mFA_ mFW_ mHS5_ mHG6_ mHX1_ mHR7_ mB_ mQ_; have hcx := FA.out.now.1; have hx0 := (blk_cell hcx 0).trans (show _ = some (.int .i64 a0_0) from rfl); have hx1 := (blk_cell hcx 1).trans (show _ = some (.slice A0_1 l0_1.length c0_1) from rfl); have hgx0 := (blk_cell HG6.out.now 0).trans (show _ = some (.int .i64 a0_0) from rfl); have hgx1 := (blk_cell HG6.out.now 1).trans (show _ = some (.slice A5 l0_1.length c5) from rfl); clear hb))
        go_upto_region 19 with (go_at_call 26; refine (markCnf_any (fun k_ => w4.heap.size ≤ k_ ∧ k_ < w5.heap.size) (.slice A5 l0_1.length c5) l0_1 a0_0 1 w _ HB.out HS5.out.now (by decide) (by omega)).mono ?_; rintro e w15 ⟨⟨b12, rfl, hb0, hb2⟩, hbB, hbK⟩; clear hcx hx0 hx1; clear hgx0 hgx1; clear HG6 HS5; have mFA_ := Aside0.mk (foot_kept FA.out hbK (fun k_ hk_ hs_ => by have g1_ : k_ < W1.heap.size := hk_; have g2_ : w4.heap.size ≤ k_ ∧ k_ < w5.heap.size := hs_; have := HLE.out; have := HL5.out; have := H6.out; have := H7.out; omega)); have mFW_ := Aside0.mk (foot_kept FW.out hbK (fun k_ hk_ hs_ => by have g1_ : k_ < w4.heap.size := hk_; have g2_ : w4.heap.size ≤ k_ ∧ k_ < w5.heap.size := hs_; have := HLE.out; have := HL5.out; have := H6.out; have := H7.out; omega)); have mHX1_ := Aside0.mk (foot_kept HX1.out hbK (fun k_ hk_ hs_ => by have g1_ : w6.heap.size ≤ k_ ∧ k_ < w7.heap.size := hk_; have g2_ : w4.heap.size ≤ k_ ∧ k_ < w5.heap.size := hs_; have := HLE.out; have := HL5.out; have := H6.out; have := H7.out; omega)); have mHR7_ := Aside0.mk (foot_kept HR7.out hbK (fun k_ hk_ hs_ => by have g1_ : w7.heap.size ≤ k_ := hk_; have g2_ : w4.heap.size ≤ k_ ∧ k_ < w5.heap.size := hs_; have := HLE.out; have := HL5.out; have := H6.out; have := H7.out; omega)); have mB_ := Aside0.mk hbB; have mQ_ := Aside0.mk (Nat.le_trans HQ.out hbK.1); clear FA FW HX1 HR7 HB HQ; have FA := mFA_; have FW := mFW_; have HX1 := mHX1_; have HR7 := mHR7_; have HB := mB_; have HQ := mQ_; clear mFA_ mFW_ mHX1_ mHR7_ mB_ mQ_; have hcx := FA.out.now.1; have hx0 := (blk_cell hcx 0).trans (show _ = some (.int .i64 a0_0) from rfl); have hx1 := (blk_cell hcx 1).trans (show _ = some (.slice A0_1 l0_1.length c0_1) from rfl); clear hbK hbB; obtain ⟨rm, hrun, -⟩ := markI_run l1.length 0 l1 b12 (by omega) hb0 (by omega) (by omega); have hkn : 0 ≤ b12 + (l1.length : Int) := by omega)
        go_upto_region 20 with (go_at_call 27; refine (laws_markIntS.calls (l1.length + 1) (fun k_ => w6.heap.size ≤ k_ ∧ k_ < w7.heap.size) (.slice A6 l1.length c6) l1 b12 (b12 + l1.length) rm w _ HB.out HX1.out.now hrun).mono ?_; rintro e w16 ⟨rfl, hR16, hbB, hbK⟩; clear hcx hx0 hx1; clear HX1 hrun hR16; have mFA_ := Aside0.mk (foot_kept FA.out hbK (fun k_ hk_ hs_ => by have g1_ : k_ < W1.heap.size := hk_; have g2_ : w6.heap.size ≤ k_ ∧ k_ < w7.heap.size := hs_; have := HLE.out; have := HL5.out; have := H6.out; have := H7.out; omega)); have mFW_ := Aside0.mk (foot_kept FW.out hbK (fun k_ hk_ hs_ => by have g1_ : k_ < w4.heap.size := hk_; have g2_ : w6.heap.size ≤ k_ ∧ k_ < w7.heap.size := hs_; have := HLE.out; have := HL5.out; have := H6.out; have := H7.out; omega)); have mHR7_ := Aside0.mk (foot_kept HR7.out hbK (fun k_ hk_ hs_ => by have g1_ : w7.heap.size ≤ k_ := hk_; have g2_ : w6.heap.size ≤ k_ ∧ k_ < w7.heap.size := hs_; have := HLE.out; have := HL5.out; have := H6.out; have := H7.out; omega)); have mB_ := Aside0.mk hbB; have mQ_ := Aside0.mk (Nat.le_trans HQ.out hbK.1); clear FA FW HR7 HB HQ; have FA := mFA_; have FW := mFW_; have HR7 := mHR7_; have HB := mB_; have HQ := mQ_; clear mFA_ mFW_ mHR7_ mB_ mQ_; have hcx := FA.out.now.1; have hx0 := (blk_cell hcx 0).trans (show _ = some (.int .i64 a0_0) from rfl); have hx1 := (blk_cell hcx 1).trans (show _ = some (.slice A0_1 l0_1.length c0_1) from rfl); clear hbK hbB)
        go_upto_region 23 with (go_at_call 23; refine (laws_eqIntS.calls kf A7 c7 W0 A4 c4 W0 true _ (Kd.R_reads' HR7.out.now).2.2 (Kd.R_reads' HR7.out.now).2.1 (Kd.R_reads' FW.out.now).2.2 (Kd.R_reads' FW.out.now).2.1 heb).mono ?_; rintro e w17 ⟨rfl, hd⟩; have hb := drawn_below hd; clear hd; clear hcx hx0 hx1; have mFA_ := Aside0.mk (foot_below FA.out hb); have mFW_ := Aside0.mk (foot_below FW.out hb); have mHR7_ := Aside0.mk (foot_below HR7.out hb); have mB_ := Aside0.mk (HB.out.trans (hb.mono HB.out.size)); have mQ_ := Aside0.mk (Nat.le_trans HQ.out hb.size); clear FA FW HR7 HB HQ; have FA := mFA_; have FW := mFW_; have HR7 := mHR7_; have HB := mB_; have HQ := mQ_; clear mFA_ mFW_ mHR7_ mB_ mQ_; have hcx := FA.out.now.1; have hx0 := (blk_cell hcx 0).trans (show _ = some (.int .i64 a0_0) from rfl); have hx1 := (blk_cell hcx 1).trans (show _ = some (.slice A0_1 l0_1.length c0_1) from rfl); clear hb)
        go_upto_region 24 with (go_at_call 27; refine (laws_markIntS.calls kf (fun k_ => w7.heap.size ≤ k_) (.slice A7 W0.length c7) W0 1 hh G w _ HB.out HR7.out.now hmb).mono ?_; rintro e w18 ⟨rfl, hR18, hbB, hbK⟩; clear hcx hx0 hx1; clear HR7; have mFA_ := Aside0.mk (foot_kept FA.out hbK (fun k_ hk_ hs_ => by have g1_ : k_ < W1.heap.size := hk_; have g2_ : w7.heap.size ≤ k_ := hs_; have := HLE.out; have := HL5.out; have := H6.out; have := H7.out; omega)); have mFW_ := Aside0.mk (foot_kept FW.out hbK (fun k_ hk_ hs_ => by have g1_ : k_ < w4.heap.size := hk_; have g2_ : w7.heap.size ≤ k_ := hs_; have := HLE.out; have := HL5.out; have := H6.out; have := H7.out; omega)); have mB_ := Aside0.mk hbB; have mQ_ := Aside0.mk (Nat.le_trans HQ.out hbK.1); clear FA FW HB HQ; have FA := mFA_; have FW := mFW_; have HB := mB_; have HQ := mQ_; clear mFA_ mFW_ mB_ mQ_; have hcx := FA.out.now.1; have hx0 := (blk_cell hcx 0).trans (show _ = some (.int .i64 a0_0) from rfl); have hx1 := (blk_cell hcx 1).trans (show _ = some (.slice A0_1 l0_1.length c0_1) from rfl); have HR14 := Aside0.mk (foot_R (Kd.R_mono (ok' := fun _ => True) hR18 (fun _ _ => trivial))); clear hbK hbB hR18)
        go_upto_region 30 with (go_at_call 28; refine (heldI_at kf A7 c7 G W0.length hGl 1 hh _ (Kd.R_reads' HR14.out.now).2.2 (Kd.R_reads' HR14.out.now).2.1 hhb).mono ?_; rintro e w19 ⟨rfl, hd⟩; have hb := drawn_below hd; clear hd; clear hcx hx0 hx1; have mFA_ := Aside0.mk (foot_below FA.out hb); have mFW_ := Aside0.mk (foot_below FW.out hb); have mHR14_ := Aside0.mk (foot_below HR14.out hb); have mB_ := Aside0.mk (HB.out.trans (hb.mono HB.out.size)); have mQ_ := Aside0.mk (Nat.le_trans HQ.out hb.size); clear FA FW HR14 HB HQ; have FA := mFA_; have FW := mFW_; have HR14 := mHR14_; have HB := mB_; have HQ := mQ_; clear mFA_ mFW_ mHR14_ mB_ mQ_; have hcx := FA.out.now.1; have hx0 := (blk_cell hcx 0).trans (show _ = some (.int .i64 a0_0) from rfl); have hx1 := (blk_cell hcx 1).trans (show _ = some (.slice A0_1 l0_1.length c0_1) from rfl); clear hb)
        go_wp2_with (first
          | (go_at_call 15; refine (laws_toCnf.calls kf a0_0 A0_1 c0_1 l0_1 a0_0 l0_1 _ FA.out.now.2.1 hc0_1 hto).mono ?_; rintro e w20 ⟨v16, rfl, hS16, hb⟩; clear hcx hx0 hx1; have mFA_ := Aside0.mk (foot_below FA.out hb); have mFW_ := Aside0.mk (foot_below FW.out hb); have mHR14_ := Aside0.mk (foot_below HR14.out hb); have mB_ := Aside0.mk (HB.out.trans (hb.mono HB.out.size)); have mQ_ := Aside0.mk (Nat.le_trans HQ.out hb.size); clear FA FW HR14 HB HQ; have FA := mFA_; have FW := mFW_; have HR14 := mHR14_; have HB := mB_; have HQ := mQ_; clear mFA_ mFW_ mHR14_ mB_ mQ_; have hcx := FA.out.now.1; have hx0 := (blk_cell hcx 0).trans (show _ = some (.int .i64 a0_0) from rfl); have hx1 := (blk_cell hcx 1).trans (show _ = some (.slice A0_1 l0_1.length c0_1) from rfl); clear hb; obtain ⟨A16, c16, ev_, hl16, hC16⟩ := Kd.R_reads (Kd.S_R hS16); clear hS16; subst ev_)
          | (go_at_call 21; refine (laws_toIntS.calls kf A1 c1 l1 l1 _ FA.out.now.2.2 hc1 hti).mono ?_; rintro e w21 ⟨v17, rfl, hS17, hb⟩; clear hcx hx0 hx1; have mFA_ := Aside0.mk (foot_below FA.out hb); have mFW_ := Aside0.mk (foot_below FW.out hb); have mHR14_ := Aside0.mk (foot_below HR14.out hb); have mB_ := Aside0.mk (HB.out.trans (hb.mono HB.out.size)); have mQ_ := Aside0.mk (Nat.le_trans HQ.out hb.size); clear FA FW HR14 HB HQ; have FA := mFA_; have FW := mFW_; have HR14 := mHR14_; have HB := mB_; have HQ := mQ_; clear mFA_ mFW_ mHR14_ mB_ mQ_; have hcx := FA.out.now.1; have hx0 := (blk_cell hcx 0).trans (show _ = some (.int .i64 a0_0) from rfl); have hx1 := (blk_cell hcx 1).trans (show _ = some (.slice A0_1 l0_1.length c0_1) from rfl); have hC16 := Kd.C_below hC16 hb; clear hb; obtain ⟨A17, c17, ev_, hl17, hC17⟩ := Kd.R_reads hS17; clear hS17; subst ev_)
          | (go_at_call 25; refine (impl_Propagate.calls kf a0_0 A16 c16 l0_1 A17 c17 l1 W0 s1 s2 w21 hC16 hl16 hC17 hl17 him).mono ?_; rintro e w22 ⟨v18, rfl, hR18, hb⟩; clear hC16 hl16 hC17 hl17; clear hcx hx0 hx1; have mFA_ := Aside0.mk (foot_below FA.out hb); have mFW_ := Aside0.mk (foot_below FW.out hb); have mHR14_ := Aside0.mk (foot_below HR14.out hb); have mB_ := Aside0.mk (HB.out.trans (hb.mono HB.out.size)); have mQ_ := Aside0.mk (Nat.le_trans HQ.out hb.size); clear FA FW HR14 HB HQ; have FA := mFA_; have FW := mFW_; have HR14 := mHR14_; have HB := mB_; have HQ := mQ_; clear mFA_ mFW_ mHR14_ mB_ mQ_; have hcx := FA.out.now.1; have hx0 := (blk_cell hcx 0).trans (show _ = some (.int .i64 a0_0) from rfl); have hx1 := (blk_cell hcx 1).trans (show _ = some (.slice A0_1 l0_1.length c0_1) from rfl); clear hb; obtain ⟨A18, c18, ev_, hl18, hC18⟩ := Kd.R_reads hR18; clear hR18; subst ev_)
          | (go_at_call 23; refine (laws_eqIntS.calls kf A18 c18 W0 A4 c4 W0 true w22 hC18 hl18 (Kd.R_reads' FW.out.now).2.2 (Kd.R_reads' FW.out.now).2.1 heb).mono ?_; rintro e w23 ⟨rfl, hd⟩; clear hC18 hl18; have hb := drawn_below hd; clear hd; clear hcx hx0 hx1; have mFA_ := Aside0.mk (foot_below FA.out hb); have mFW_ := Aside0.mk (foot_below FW.out hb); have mHR14_ := Aside0.mk (foot_below HR14.out hb); have mB_ := Aside0.mk (HB.out.trans (hb.mono HB.out.size)); have mQ_ := Aside0.mk (Nat.le_trans HQ.out hb.size); clear FA FW HR14 HB HQ; have FA := mFA_; have FW := mFW_; have HR14 := mHR14_; have HB := mB_; have HQ := mQ_; clear mFA_ mFW_ mHR14_ mB_ mQ_; have hcx := FA.out.now.1; have hx0 := (blk_cell hcx 0).trans (show _ = some (.int .i64 a0_0) from rfl); have hx1 := (blk_cell hcx 1).trans (show _ = some (.slice A0_1 l0_1.length c0_1) from rfl); clear hb)
          | (go_at_call 28; refine (heldI_at kf A7 c7 G W0.length hGl 1 hh _ (Kd.R_reads' HR14.out.now).2.2 (Kd.R_reads' HR14.out.now).2.1 hhb).mono ?_; rintro e w24 ⟨rfl, hd⟩; have hb := drawn_below hd; clear hd; clear hcx hx0 hx1; have mFA_ := Aside0.mk (foot_below FA.out hb); have mFW_ := Aside0.mk (foot_below FW.out hb); have mHR14_ := Aside0.mk (foot_below HR14.out hb); have mB_ := Aside0.mk (HB.out.trans (hb.mono HB.out.size)); have mQ_ := Aside0.mk (Nat.le_trans HQ.out hb.size); clear FA FW HR14 HB HQ; have FA := mFA_; have FW := mFW_; have HR14 := mHR14_; have HB := mB_; have HQ := mQ_; clear mFA_ mFW_ mHR14_ mB_ mQ_; have hcx := FA.out.now.1; have hx0 := (blk_cell hcx 0).trans (show _ = some (.int .i64 a0_0) from rfl); have hx1 := (blk_cell hcx 1).trans (show _ = some (.slice A0_1 l0_1.length c0_1) from rfl); clear hb))
        go_ret
        exact ⟨rfl, HB.out⟩
      · rw [if_neg hc] at h
        cases h

end Go.Proofs.Ytelfahcjeldliaa.PFnExactPropagate
