/- FnExactNormalCnf: for every input the law returns true. The texts that this program's session printed and proved for it, those that the proof uses, laid together. Conditions: the form's own reach alone. -/
import Derived.Test.YtelfahcjeldliaaQFnExactNormalCnf2
import Derived.Deep.Slices
import Derived.ChangeArms
import Derived.SizedLaws
import Derived.Test.YtelfahcjeldliaaRows
import Derived.WalkKit
import Derived.ProofKit
import Derived.OpenShut
import Derived.ShutString
import Derived.ChangeOld
import Derived.Below
section
namespace Go.Proofs.Ytelfahcjeldliaa.PFnExactNormalCnf
open Go.RowKit Go.Proofs.YtelfahcjeldliaaW.PrintWords Go.Proofs.YtelfahcjeldliaaW.PrintLast Go.Proofs.YtelfahcjeldliaaW.PrintMore
attribute [local go_sem] max2_int min2_int max_two min_two max_three min_three max_four min_four   -- for this text's walks alone
set_option linter.unusedVariables false
set_option linter.unusedSimpArgs false
def laws_heldIntSS.l0 : Nat → List (List Int) → Int → Int → Option (Int)
 | 0, _, _, _ => none
 | k + 1, x0, x1, x5 => if x5 < (x0.length : Int) then (if 0 ≤ x5 then ((laws_heldIntS.f k (rd_L1 x0 x5) x1).bind fun t158 => (if t158 < 0 then (some (-1)) else (laws_heldIntSS.l0 k x0 t158 (wrap64 (x5 + 1))))) else (none)) else (some x1)
def laws_heldIntSS.f (k : Nat) (l0 : List (List Int)) (a1 : Int) : Option (Int) := laws_heldIntSS.l0 k l0 a1 0
set_option maxHeartbeats 8000000 in
set_option maxRecDepth 100000 in
theorem laws_heldIntSS.calls (k : Nat) (A0 : Option Addr) (c0 : Nat) (l0 : List (List Int)) (a1 : Int) (r : Int) (w : World) (hr0 : Kd.C (Kd.slice 3 (Kd.int .i64)) w A0 l0.length l0) (hc0 : l0.length ≤ c0) (h : laws_heldIntSS.f k l0 a1 = some r) :
  Calls Try.prog 95 #[.slice A0 l0.length c0, .int .i64 a1] w fun e w' => e = .returned (.int .i64 r) ∧ Drawn0 w w' := by
 have HR0 := Aside0.mk hr0
 have HC0 := Aside0.mk hc0
 clear hr0 hc0
 have H : (laws_heldIntSS.l0 k l0 a1 0) = some r := h
 clear h
 have H' := Aside0.mk H
 clear H
 go_enter Try.func95, Try.ntmps95
 go_wp2
 go_loopg [1, 5] k (fun kq v1 v5 w' => ∃ (x1_1 : Int) (x5_1 : Int), v1 = .int .i64 x1_1 ∧ v5 = .int .i64 x5_1 ∧ Aside0 (laws_heldIntSS.l0 kq l0 x1_1 x5_1 = some r) ∧ Aside0 (kq ≤ k) ∧ Drawn0 w w')
 case atStart => exact ⟨(a1), (0), (by first | rfl | (simp; done) | (simp [*]; done)), (by first | rfl | (simp; done) | (simp [*]; done)), H', ⟨Nat.le_refl _⟩, by repeat (first | exact Drawn0.refl _ | apply Drawn0.step)⟩
 case round =>
  clear H'
  try clear p2
  obtain ⟨x1_1, x5_1, rfl, rfl, HA, HK1, ⟨m1, rfl⟩⟩ := hrel
  cases gk with
  | zero => exact absurd HA.out (by simp [laws_heldIntSS.l0])
  | succ k1 =>
   have H := HA.out
   clear HA
   simp only [laws_heldIntSS.l0] at H
   by_cases c3 : x5_1 < (l0.length : Int)
   ·rw [if_pos c3] at H
    have c3b0 : decide (x5_1 < (l0.length : Int)) = true := decide_eq_true c3
    clear c3
    by_cases c4 : 0 ≤ x5_1
    ·rw [if_pos c4] at H
     have c4b0 : decide (0 ≤ x5_1) = true := decide_eq_true c4
     clear c4
     replace H := Option.bind_eq_some_iff.mp H
     obtain ⟨t158, A50, H⟩ := H
     replace H : (if t158 < 0 then (some (-1)) else (laws_heldIntSS.l0 k1 l0 t158 (wrap64 (x5_1 + 1)))) = some r := H
     have A5 := Aside0.mk A50
     clear A50
     by_cases c6 : t158 < 0
     ·rw [if_pos c6] at H
      have c6b0 : decide (t158 < 0) = true := decide_eq_true c6
      clear c6
      obtain rfl := Option.some.inj H
      have p157 : 0 ≤ (x5_1 : Int) := of_decide_eq_true (by first | (with_reducible assumption) | assumption)
      have q157 : x5_1 < (l0.length : Int) := of_decide_eq_true (by first | (with_reducible assumption) | assumption)
      obtain ⟨ad157, A157_0, c157_0, e157, hx157_0, hl157_0, hi157_0⟩ := at_L1 HR0.out x5_1 p157 q157
      cases e157
      have HR157_0 := Aside0.mk hi157_0
      have HC157_0 := Aside0.mk hl157_0
      clear hi157_0 hl157_0
      replace p157 := eq_true p157
      replace q157 := eq_true q157
      go_wp2_with (first | ((with_reducible refine gate_callee (f := 28) rfl ?_); refine goesL_ (some 17) rfl rfl Try.func28 (by kernel_rfl) rfl #[.slice A157_0 (rd_L1 l0 x5_1).length c157_0, .int .i64 x1_1] rfl (by (try simp only [List.map_toArray, List.map_cons, List.map_nil]); first | done | rfl | (simp only [List.length_drop, List.length_take]; rfl)) ?_; (with_reducible refine (laws_heldIntS.calls k1 _ _ (rd_L1 l0 x5_1) x1_1 t158 _ ?side1 ?side2 A5.out).mono ?_); (case side1 => repeat (first | exact HR157_0.out | (with_reducible refine Kd.C_alloc ?_ _) | (with_reducible refine Kd.C_drewN ?_ _) | (with_reducible refine Kd.C_drew ?_))); (case side2 => exact HC157_0.out); rintro e w' ⟨rfl, ⟨nd, rfl⟩⟩; refine ⟨_, rfl, ?_⟩))
      go_ret
      exact ⟨by first | rfl | (simp; done) | (simp [*]; done), by repeat (first | exact Drawn0.refl _ | apply Drawn0.step)⟩
     ·rw [if_neg c6] at H
      have c6b0 : decide (t158 < 0) = false := decide_eq_false c6
      clear c6
      have H' := Aside0.mk H
      clear H
      have p157 : 0 ≤ (x5_1 : Int) := of_decide_eq_true (by first | (with_reducible assumption) | assumption)
      have q157 : x5_1 < (l0.length : Int) := of_decide_eq_true (by first | (with_reducible assumption) | assumption)
      obtain ⟨ad157, A157_0, c157_0, e157, hx157_0, hl157_0, hi157_0⟩ := at_L1 HR0.out x5_1 p157 q157
      cases e157
      have HR157_0 := Aside0.mk hi157_0
      have HC157_0 := Aside0.mk hl157_0
      clear hi157_0 hl157_0
      replace p157 := eq_true p157
      replace q157 := eq_true q157
      go_wp2_with (first | ((with_reducible refine gate_callee (f := 28) rfl ?_); refine goesL_ (some 17) rfl rfl Try.func28 (by kernel_rfl) rfl #[.slice A157_0 (rd_L1 l0 x5_1).length c157_0, .int .i64 x1_1] rfl (by (try simp only [List.map_toArray, List.map_cons, List.map_nil]); first | done | rfl | (simp only [List.length_drop, List.length_take]; rfl)) ?_; (with_reducible refine (laws_heldIntS.calls k1 _ _ (rd_L1 l0 x5_1) x1_1 t158 _ ?side1 ?side2 A5.out).mono ?_); (case side1 => repeat (first | exact HR157_0.out | (with_reducible refine Kd.C_alloc ?_ _) | (with_reducible refine Kd.C_drewN ?_ _) | (with_reducible refine Kd.C_drew ?_))); (case side2 => exact HC157_0.out); rintro e w' ⟨rfl, ⟨nd, rfl⟩⟩; refine ⟨_, rfl, ?_⟩))
      go_roundg k1
      case measure => have := HK1.out; omega
      case rel => exact ⟨(t158), (wrap64 (x5_1 + 1)), (by first | rfl | (simp; done) | (simp [*]; done)), (by first | rfl | (simp; done) | (simp [*]; done)), H', ⟨by have := HK1.out; omega⟩, by repeat (first | exact Drawn0.refl _ | apply Drawn0.step)⟩
    ·rw [if_neg c4] at H
     exact absurd H (by simp)
   ·rw [if_neg c3] at H
    have c3b0 : decide (x5_1 < (l0.length : Int)) = false := decide_eq_false c3
    clear c3
    obtain rfl := Option.some.inj H
    go_wp2
    go_ret
    exact ⟨by first | rfl | (simp; done) | (simp [*]; done), by repeat (first | exact Drawn0.refl _ | apply Drawn0.step)⟩
def laws_heldCnf.f (k : Nat) (a0_0 : Int) (l0_1 : List (List Int)) (a1 : Int) : Option (Int) := (laws_heldIntSS.f k l0_1 a1).bind fun t160 => (if t160 < 0 then (some (-1)) else (some t160))
set_option maxHeartbeats 8000000 in
set_option maxRecDepth 100000 in
theorem laws_heldCnf.calls (k : Nat) (a0_0 : Int) (A0_1 : Option Addr) (c0_1 : Nat) (l0_1 : List (List Int)) (a1 : Int) (r : Int) (w : World) (hr0_1 : Kd.C (Kd.slice 3 (Kd.int .i64)) w A0_1 l0_1.length l0_1) (hc0_1 : l0_1.length ≤ c0_1) (h : laws_heldCnf.f k a0_0 l0_1 a1 = some r) :
  Calls Try.prog 46 #[.agg #[.int .i64 a0_0, .slice A0_1 l0_1.length c0_1], .int .i64 a1] w fun e w' => e = .returned (.int .i64 r) ∧ Below w.heap.size w w' := by
 have hu30 := Try.underlying30
 have HR0_1 := Aside0.mk hr0_1
 have HC0_1 := Aside0.mk hc0_1
 clear hr0_1 hc0_1
 have HB := Aside0.mk (Below.refl w.heap.size w)
 have H : ((laws_heldIntSS.f k l0_1 a1).bind fun t160 => (if t160 < 0 then (some (-1)) else (some t160))) = some r := h
 clear h
 replace H := Option.bind_eq_some_iff.mp H
 obtain ⟨t160, A30, H⟩ := H
 replace H : (if t160 < 0 then (some (-1)) else (some t160)) = some r := H
 have A3 := Aside0.mk A30
 clear A30
 by_cases c4 : t160 < 0
 ·rw [if_pos c4] at H
  have c4b0 : decide (t160 < 0) = true := decide_eq_true c4
  clear c4
  obtain rfl := Option.some.inj H
  go_enter Try.func46, Try.ntmps46
  go_wp2_with (first | ((with_reducible refine gate_dst (N := 2) rfl ?_); refine box_event ?hg (N := 2) ?hd (cs := #[.int .i64 a0_0, .slice A0_1 l0_1.length c0_1]) (t := 30) ?hr ?_; (case hd => rfl); (case hg => rfl); (case hr => first | (go_simp; done) | (go_simp; rfl)); intro gb159 hg w5 hbox hb; have n0_ := Aside0.mk (below_step (by repeat (first | (with_reducible first | exact HB.out | apply below_alloc | apply pw_below_drewN | apply below_drew1) | exact HB.out)) hb); have n1_ := Aside0.mk (hbox); have n2_ := Aside0.mk ((by rw [hg]; exact (below_size (by repeat (first | (with_reducible first | exact HB.out | apply below_alloc | apply pw_below_drewN | apply below_drew1) | exact HB.out))) : w.heap.size ≤ gb159)); have n3_ := Aside0.mk ((by rw [hg]; exact (below_size (by repeat (first | (with_reducible first | exact HB.out | apply below_alloc | apply pw_below_drewN | apply below_drew1) | exact HB.out))) : w.heap.size ≤ gb159)); clear HB; have HB := n0_; have BK159 := n1_; have GW159 := n2_; have GE159 := n3_; clear n0_ n1_ n2_ n3_; clear hb hbox hg; have hcz6_0 : w5.cell? ⟨gb159, 0, none⟩ = some (.int .i64 a0_0) := (blk_cell BK159.out 0).trans rfl; have hcz6_1 : w5.cell? ⟨gb159, 1, none⟩ = some (.slice A0_1 l0_1.length c0_1) := (blk_cell BK159.out 1).trans rfl; have hfz6_0 := blk_frozen BK159.out 0; have hfz6_1 := blk_frozen BK159.out 1) | ((with_reducible refine gate_callee (f := 95) rfl ?_); refine goesL_ (some 8) rfl rfl Try.func95 (by kernel_rfl) rfl #[.slice A0_1 l0_1.length c0_1, .int .i64 a1] rfl (by (try simp only [List.map_toArray, List.map_cons, List.map_nil]); first | done | rfl | (simp only [List.length_drop, List.length_take]; rfl)) ?_; (with_reducible refine (laws_heldIntSS.calls k _ _ l0_1 a1 t160 _ ?side1 ?side2 A3.out).mono ?_); (case side1 => repeat (first | exact (Kd.C_below HR0_1.out HB.out) | (with_reducible refine Kd.C_alloc ?_ _) | (with_reducible refine Kd.C_drewN ?_ _) | (with_reducible refine Kd.C_drew ?_))); (case side2 => exact HC0_1.out); rintro e w' ⟨rfl, ⟨nd, rfl⟩⟩; refine ⟨_, rfl, ?_⟩))
  go_ret
  exact ⟨by first | rfl | (simp [errW_none, errW_some] <;> rfl) | (simp [*, errW_none, errW_some] <;> rfl), by repeat (first | (with_reducible first | exact HB.out | apply below_alloc | apply pw_below_drewN | apply below_drew1 | refine below_set ?_ GE159.out) | exact HB.out)⟩
 ·rw [if_neg c4] at H
  have c4b0 : decide (t160 < 0) = false := decide_eq_false c4
  clear c4
  obtain rfl := Option.some.inj H
  go_enter Try.func46, Try.ntmps46
  go_wp2_with (first | ((with_reducible refine gate_dst (N := 2) rfl ?_); refine box_event ?hg (N := 2) ?hd (cs := #[.int .i64 a0_0, .slice A0_1 l0_1.length c0_1]) (t := 30) ?hr ?_; (case hd => rfl); (case hg => rfl); (case hr => first | (go_simp; done) | (go_simp; rfl)); intro gb159 hg w7 hbox hb; have n0_ := Aside0.mk (below_step (by repeat (first | (with_reducible first | exact HB.out | apply below_alloc | apply pw_below_drewN | apply below_drew1) | exact HB.out)) hb); have n1_ := Aside0.mk (hbox); have n2_ := Aside0.mk ((by rw [hg]; exact (below_size (by repeat (first | (with_reducible first | exact HB.out | apply below_alloc | apply pw_below_drewN | apply below_drew1) | exact HB.out))) : w.heap.size ≤ gb159)); have n3_ := Aside0.mk ((by rw [hg]; exact (below_size (by repeat (first | (with_reducible first | exact HB.out | apply below_alloc | apply pw_below_drewN | apply below_drew1) | exact HB.out))) : w.heap.size ≤ gb159)); clear HB; have HB := n0_; have BK159 := n1_; have GW159 := n2_; have GE159 := n3_; clear n0_ n1_ n2_ n3_; clear hb hbox hg; have hcz8_0 : w7.cell? ⟨gb159, 0, none⟩ = some (.int .i64 a0_0) := (blk_cell BK159.out 0).trans rfl; have hcz8_1 : w7.cell? ⟨gb159, 1, none⟩ = some (.slice A0_1 l0_1.length c0_1) := (blk_cell BK159.out 1).trans rfl; have hfz8_0 := blk_frozen BK159.out 0; have hfz8_1 := blk_frozen BK159.out 1) | ((with_reducible refine gate_callee (f := 95) rfl ?_); refine goesL_ (some 8) rfl rfl Try.func95 (by kernel_rfl) rfl #[.slice A0_1 l0_1.length c0_1, .int .i64 a1] rfl (by (try simp only [List.map_toArray, List.map_cons, List.map_nil]); first | done | rfl | (simp only [List.length_drop, List.length_take]; rfl)) ?_; (with_reducible refine (laws_heldIntSS.calls k _ _ l0_1 a1 t160 _ ?side1 ?side2 A3.out).mono ?_); (case side1 => repeat (first | exact (Kd.C_below HR0_1.out HB.out) | (with_reducible refine Kd.C_alloc ?_ _) | (with_reducible refine Kd.C_drewN ?_ _) | (with_reducible refine Kd.C_drew ?_))); (case side2 => exact HC0_1.out); rintro e w' ⟨rfl, ⟨nd, rfl⟩⟩; refine ⟨_, rfl, ?_⟩))
  go_ret
  exact ⟨by first | rfl | (simp [errW_none, errW_some] <;> rfl) | (simp [*, errW_none, errW_some] <;> rfl), by repeat (first | (with_reducible first | exact HB.out | apply below_alloc | apply pw_below_drewN | apply below_drew1 | refine below_set ?_ GE159.out) | exact HB.out)⟩
def markSSv : Nat → List (List Int) → Int → Nat → Option (Int × List (List Int))
 | 0, _, _, _ => none
 | n + 1, ys, b, kk => if kk < ys.length then (laws_markIntS.f ((ys.getD kk []).length + 1) (ys.getD kk []) b).bind fun p => if p.2.length = (ys.getD kk []).length then markSSv n (ys.set kk p.2) p.1 (kk + 1) else none else some (b, ys)
def WRc (w0 : World) (g : Nat) (f : Nat → Nat) (vs : Nat → Value) (P : Nat → Prop) (l : List (List Int)) (V : World) : Prop :=
 ∀ j : Nat, j < l.length → V.cell? ⟨g, j, none⟩ = some (vs j) ∧ (∃ A c, vs j = .slice A (l.getD j []).length c) ∧ Kd.R (Kd.int .i64) 3 V w0.heap.size (fun k => (P k ∧ k ≠ g) ∧ f k = j) (vs j) (l.getD j [])
theorem WRc.of {w0 V : World} {P : Nat → Prop} {g n cap : Nat} {l : List (List Int)} (h : Kd.S (Kd.slice 3 (Kd.int .i64)) 37 V w0.heap.size P (.slice (some ⟨g, 0, none⟩) n cap) l) : ∃ f vs, WRc w0 g f vs P l V := by
 obtain ⟨f, HR⟩ := h
 have hn := (Kd.R_reads' HR).1
 rw [List.length_zipIdx] at hn
 have key : ∀ j : Nat, ∃ v, j < l.length → V.cell? ⟨g, j, none⟩ = some v ∧ (∃ A c, v = .slice A (l.getD j []).length c) ∧ Kd.R (Kd.int .i64) 3 V w0.heap.size (fun k => (P k ∧ k ≠ g) ∧ f k = j) v (l.getD j []) := by
  intro j
  by_cases hj : j < l.length
  ·obtain ⟨c, hc, hM, hcell, _⟩ := Kd.R_elem HR (([], 0) : List Int × Nat) (j : Int) (by omega) (by omega)
   rw [Int.toNat_natCast] at hM hcell
   have he : l.zipIdx.getD j (([], 0) : List Int × Nat) = (l.getD j [], j) := by
    rw [List.getD_eq_getElem?_getD, List.getElem?_zipIdx, List.getElem?_eq_getElem hj, Nat.zero_add, List.getD_eq_getElem?_getD, List.getElem?_eq_getElem hj]
    rfl
   rw [he] at hM
   obtain ⟨v, rfl, hR⟩ := hM
   obtain ⟨A, cc, ev⟩ := Kd.R_slice hR
   refine ⟨v, fun _ => ⟨?_, ⟨A, cc, ev⟩, hR⟩⟩
   have h9 : V.cell? ⟨g, j * 1 + 0, none⟩ = some v := hcell 0 v rfl
   rwa [show j * 1 + 0 = j by omega] at h9
  ·exact ⟨undef, fun h => absurd h hj⟩
 exact ⟨f, fun j => (key j).choose, fun j hj => (key j).choose_spec hj⟩
theorem WRc.kept {w0 V V2 : World} {g : Nat} {f : Nat → Nat} {vs : Nat → Value} {P : Nat → Prop} {l : List (List Int)} (h : WRc w0 g f vs P l V) (i : Nat) (xs : List Int) (hl : xs.length = (l.getD i []).length) (hk : Kept V V2 (fun k => (P k ∧ k ≠ g) ∧ f k = i)) (hR : Kd.R (Kd.int .i64) 3 V2 w0.heap.size (fun k => (P k ∧ k ≠ g) ∧ f k = i) (vs i) xs) : WRc w0 g f vs P (l.set i xs) V2 := by
 intro j hj
 rw [List.length_set] at hj
 obtain ⟨h1, h2, h4⟩ := h j hj
 by_cases e : j = i
 ·subst e
  have hg : (l.set j xs).getD j [] = xs := by rw [List.getD_eq_getElem?_getD, List.getElem?_set_self hj]; rfl
  rw [hg]
  exact ⟨cell_kept h1 hk (fun hg => hg.1.2 rfl), by rw [hl]; exact h2, hR⟩
 ·have hg : (l.set i xs).getD j [] = l.getD j [] := by rw [List.getD_eq_getElem?_getD, List.getElem?_set_ne (fun h => e h.symm), ← List.getD_eq_getElem?_getD]
  rw [hg]
  exact ⟨cell_kept h1 hk (fun hg => hg.1.2 rfl), h2, Kd.R_kept h4 hk (fun k hk1 hk2 => e (hk1.2.symm.trans hk2.2))⟩
theorem WRc.C {w0 V : World} {g : Nat} {f : Nat → Nat} {vs : Nat → Value} {P : Nat → Prop} {l : List (List Int)} (h : WRc w0 g f vs P l V) (hm : l.length ≤ 9223372036854775807) : Kd.C (Kd.slice 3 (Kd.int .i64)) V (some ⟨g, 0, none⟩) l.length l := by
 refine ⟨rfl, hm, fun _ => ⟨_, rfl, fun j p hj => ?_⟩⟩
 have hlt : j < l.length := (List.getElem?_eq_some_iff.1 hj).1
 obtain ⟨h1, _, h4⟩ := h j hlt
 have hp : l.getD j [] = p := by rw [List.getD_eq_getElem?_getD, hj]; rfl
 rw [hp] at h4
 obtain ⟨A, c, ev, hl, hC⟩ := Kd.R_reads h4
 refine ⟨[vs j], rfl, ⟨A, c, by rw [ev], hl, hC⟩, fun i u hu => ?_⟩
 match i, hu with
 | 0, hu =>
  obtain rfl := Option.some.inj hu
  show V.cell? (Addr.add ⟨g, 0, none⟩ (j * 1 + 0)) = _
  rw [show (Addr.add ⟨g, 0, none⟩ (j * 1 + 0) : Addr) = ⟨g, j, none⟩ from by rw [add_at]; simp]
  exact h1
 | i + 1, hu => simp at hu
set_option maxHeartbeats 800000 in
set_option maxRecDepth 100000 in
theorem markSS_val (n : Nat) (r1 : Int) (r2 : List (List Int)) (P : Nat → Prop) (u : Value) (l : List (List Int)) (a : Int) (w0 w : World) (hB : Below w0.heap.size w0 w) (hS : Kd.S (Kd.slice 3 (Kd.int .i64)) 37 w w0.heap.size P u l) (h : markSSv n l a 0 = some (r1, r2)) :
  Calls Try.prog 72 #[u, .int .i64 a] w fun e w' => e = .returned (.int .i64 r1) ∧ (∃ A c, u = .slice A r2.length c ∧ r2.length ≤ c ∧ Kd.C (Kd.slice 3 (Kd.int .i64)) w' A r2.length r2) ∧ Below w0.heap.size w0 w' ∧ Kept w w' P := by
 obtain ⟨A, c, eu, hlc, hC⟩ := Kd.R_reads (Kd.S_R hS)
 subst eu
 have hmax : l.length ≤ 9223372036854775807 := Kd.C_max hC
 have hform : 0 < l.length → ∃ g, A = some ⟨g, 0, none⟩ := fun hp => by
  obtain ⟨g, cap, e, _⟩ := Kd.R_form (Kd.S_R hS) hp
  cases e
  exact ⟨g, rfl⟩
 have hw : ∀ g, A = some ⟨g, 0, none⟩ → ∃ f vs, WRc w0 g f vs P l w := fun g e => by subst e; exact WRc.of hS
 obtain ⟨f, vs, hWR⟩ : ∃ f vs, ∀ g, A = some ⟨g, 0, none⟩ → WRc w0 g f vs P l w := by
  rcases Nat.eq_zero_or_pos l.length with hz | hp
  ·exact ⟨fun _ => 0, fun _ => undef, fun g e j hj => by omega⟩
  ·obtain ⟨g, e⟩ := hform hp
   obtain ⟨f, vs, h⟩ := hw g e
   exact ⟨f, vs, fun g2 e2 => by rw [e] at e2; cases e2; exact h⟩
 have HW := Aside0.mk hWR
 have HF := Aside0.mk hform
 have HLC := Aside0.mk hlc
 have HB := Aside0.mk hB
 have HK := Aside0.mk (Kept.refl w P)
 have H1 := Aside0.mk h
 clear hS hC hB hw hWR hform h hlc
 go_enter Try.func72, Try.ntmps72
 go_wp2
 go_loopg [1, 5] n (fun gg v1 v5 wr => ∃ (b : Int) (kk : Nat) (ys : List (List Int)), v1 = .int .i64 b ∧ v5 = .int .i64 kk ∧ kk ≤ l.length ∧ ys.length = l.length ∧ Aside0 (markSSv gg ys b kk = some (r1, r2)) ∧ Aside0 (∀ g, A = some ⟨g, 0, none⟩ → WRc w0 g f vs P ys wr) ∧ Aside0 (Below w0.heap.size w0 wr) ∧ Aside0 (Kept w wr P))
 case atStart => exact ⟨a, 0, l, rfl, rfl, Nat.zero_le _, rfl, H1, HW, HB, HK⟩
 case round =>
  clear HW HB HK H1
  obtain ⟨b, kk, ys, rfl, rfl, hk, hyl, H1, HW, HB, HK⟩ := hrel
  have h1 := H1.out
  clear H1
  match gk, h1 with
  | 0, h1 => cases h1
  | gg + 1, h1 =>
  rw [markSSv] at h1
  by_cases hlt : kk < l.length
  ·have hltz : (kk : Int) < (l.length : Int) := by omega
   have h0z : (0 : Int) ≤ (kk : Int) := by omega
   rw [if_pos (by omega)] at h1
   replace h1 := Option.bind_eq_some_iff.1 h1
   obtain ⟨⟨b2, xs2⟩, hrun, h1⟩ := h1
   simp only at h1
   by_cases hxl : xs2.length = (ys.getD kk []).length
   ·rw [if_pos hxl] at h1
    obtain ⟨g, ea⟩ := HF.out (by omega)
    subst ea
    have hWR := HW.out g rfl
    obtain ⟨hx, ⟨A2, c2, ev⟩, hR⟩ := hWR kk (by omega)
    have hcall := laws_markIntS.calls ((ys.getD kk []).length + 1) (fun k => (P k ∧ k ≠ g) ∧ f k = kk) (vs kk) (ys.getD kk []) b b2 xs2 w0 wr HB.out hR hrun
    have ew : IntKind.i64.wrap ((kk : Int) + 1) = ((kk + 1 : Nat) : Int) := IntWalk.i64_in _ (by omega)
    have HWR := Aside0.mk hWR
    have HXL := Aside0.mk hxl
    have H1 := Aside0.mk h1
    have HYL := Aside0.mk hyl
    obtain ⟨n2, hn2⟩ : ∃ n2, (ys.getD kk []).length = n2 := ⟨_, rfl⟩
    rw [hn2] at ev
    have HEV := Aside0.mk ev
    rw [ev] at hx hcall
    clear hWR hR hrun h1 HW ev hxl hn2 hyl
    go_wp2_with (go_at_call 27; refine hcall.mono ?_; rintro e w3 ⟨rfl, hR3, hB3, hK3⟩; clear hcall)
    have n1_ := Aside0.mk (fun (g2 : Nat) (e2 : some (⟨g, 0, none⟩ : Addr) = some ⟨g2, 0, none⟩) => show WRc w0 g2 f vs P (ys.set kk xs2) w3 from by
     cases e2
     refine HWR.out.kept kk xs2 HXL.out hK3 ?_
     rw [HEV.out]
     exact Kd.R_reok rfl hR3 (fun k hk2 => by
      obtain ⟨_, _, h4⟩ := HWR.out kk (by rw [HYL.out]; exact hlt)
      rw [HEV.out] at h4
      exact h4.1 k hk2))
    have n2_ := Aside0.mk (HK.out.then_ hK3 (fun k hk2 => .inl hk2.1.1))
    have n3_ := Aside0.mk hB3
    clear hR3 hB3 hK3 HB HK HWR
    go_roundg gg
    case measure => omega
    case rel => exact ⟨b2, kk + 1, ys.set kk xs2, rfl, rfl, by omega, by rw [List.length_set]; exact HYL.out, H1, n1_, n3_, n2_⟩
   ·rw [if_neg hxl] at h1
    cases h1
  ·obtain rfl : kk = l.length := by omega
   rw [if_neg (by omega)] at h1
   obtain ⟨rfl, rfl⟩ := Prod.mk.inj (Option.some.inj h1)
   clear h1
   have HC := Aside0.mk (show ∃ A_ c_, Value.slice A l.length c = .slice A_ ys.length c_ ∧ ys.length ≤ c_ ∧ Kd.C (Kd.slice 3 (Kd.int .i64)) wr A_ ys.length ys from by
    refine ⟨A, c, by rw [hyl], by rw [hyl]; exact HLC.out, ?_⟩
    rcases Nat.eq_zero_or_pos l.length with hz | hp
    ·obtain rfl : ys = [] := List.length_eq_zero_iff.1 (by omega)
     exact ⟨rfl, by decide, fun h => absurd h (by decide)⟩
    ·obtain ⟨g, ea⟩ := HF.out hp
     subst ea
     exact (HW.out g rfl).C (by omega))
   go_wp2
   go_ret
   exact ⟨rfl, HC.out, HB.out, HK.out⟩
set_option maxHeartbeats 800000 in
theorem markCnf_val (n : Nat) (r1 : Int) (r2 : List (List Int)) (P : Nat → Prop) (u : Value) (l : List (List Int)) (a0 a : Int) (w0 w : World) (hB : Below w0.heap.size w0 w) (hS : Kd.S (Kd.slice 3 (Kd.int .i64)) 37 w w0.heap.size P u l) (h : markSSv n l a 0 = some (r1, r2)) :
  Calls Try.prog 26 #[.agg #[.int .i64 a0, u], .int .i64 a] w fun e w' => e = .returned (.int .i64 r1) ∧ (∃ A c, u = .slice A r2.length c ∧ r2.length ≤ c ∧ Kd.C (Kd.slice 3 (Kd.int .i64)) w' A r2.length r2) ∧ Below w0.heap.size w0 w' ∧ Kept w w' P := by
 have hu_Cnf := Try.underlying30
 obtain ⟨A, c, eu, hlc, hC⟩ := Kd.R_reads (Kd.S_R hS)
 subst eu
 have hb1 : Below w.heap.size w (w.alloc (.cells #[.int .i64 a0, .slice A l.length c] 30)) := (Below.refl _ _).alloc (Nat.le_refl _) _
 have hW : (w.alloc (.cells #[.int .i64 a0, .slice A l.length c] 30)).heap[w.heap.size]? = some (.cells #[.int .i64 a0, .slice A l.length c] 30 (0, 0)) := by
  show (w.heap.push _)[w.heap.size]? = _
  simp
 obtain ⟨W1, hW1, BX, HB1⟩ : ∃ W1, w.alloc (.cells #[.int .i64 a0, .slice A l.length c] 30) = W1 ∧ W1.heap[w.heap.size]? = some (.cells #[.int .i64 a0, .slice A l.length c] 30 (0, 0)) ∧ Below w.heap.size w W1 := ⟨_, rfl, hW, hb1⟩
 have hcall := markSS_val n r1 r2 P (.slice A l.length c) l a w0 W1 (hB.trans (HB1.mono hB.size)) (Kd.S_step hS (fun k _ hk => HB1.block k hk)) h
 have hx1 : W1.cell? ⟨w.heap.size, 1, none⟩ = some (.slice A l.length c) := (blk_cell BX 1).trans rfl
 have HK := Aside0.mk (Kept.of_below HB1 P)
 have HW1 := Aside0.mk hW1
 clear hS hC h hb1 hW hW1 BX HB1 hB
 go_enter Try.func26, Try.ntmps26
 go_upto_region 1 with fail
 rw [HW1.out]
 go_wp2_with (go_at_call 72; refine hcall.mono ?_; rintro e w3 ⟨rfl, hC3, hB3, hK3⟩)
 go_ret
 exact ⟨rfl, hC3, hB3, HK.out.then_ hK3 (fun k hk => .inl hk)⟩
def lawT_T : Bool × List (List Nat × List Nat) := (true, [([], []), ([], []), ([1], [1]), ([0, 2, 2], [0, 2]), ([3], [3])])
def lawT_B : List Nat := [0, 0, 2, 7, 15]
theorem lawT_tab : rtab .any (opsOf Try.f11 10) = lawT_T := by kernel_rfl
theorem lawT_bits : waitsOk lawT_T.2 lawT_B = true := by kernel_rfl
theorem box2 {t : Nat} {W wb : World} {gb : Nat} {a v : Value} (hg : gb = W.heap.size) (hbox : wb.heap[gb]? = some (.cells #[.int .i64 0, .slice none 0 0] t (0, 0))) (hb : Below W.heap.size W wb) : ((wb.setCell ⟨gb, 0, none⟩ a).setCell ⟨gb, 1, none⟩ v).heap[gb]? = some (.cells #[a, v] t (0, 0)) ∧ Below W.heap.size W ((wb.setCell ⟨gb, 0, none⟩ a).setCell ⟨gb, 1, none⟩ v) :=
 ⟨blk_put (cs := #[a, .slice none 0 0]) (blk_put hbox 0 a rfl) 1 v rfl, below_set (below_set hb (Nat.le_of_eq hg.symm)) (Nat.le_of_eq hg.symm)⟩
theorem heldC_at (kf : Nat) (s1 : Int) (A7 : Option Addr) (c7 n : Nat) (A : Option Addr) (c : Nat) (m2 : List (List Int)) (a r : Int) (w : World) (he : Value.slice A7 n c7 = .slice A m2.length c) (hl : m2.length ≤ c) (hC : Kd.C (Kd.slice 3 (Kd.int .i64)) w A m2.length m2) (h : laws_heldCnf.f kf s1 m2 a = some r) : Calls Try.prog 46 #[.agg #[.int .i64 s1, .slice A7 n c7], .int .i64 a] w fun e w' => e = .returned (.int .i64 r) ∧ Below w.heap.size w w' := by
 rw [he]
 exact laws_heldCnf.calls kf s1 A c m2 a r w hC hl h
def laws_FnExactNormalCnf.f (kf : Nat) (a0_0 : Int) (l0_1 : List (List Int)) : Option Bool :=
 (laws_szCnf.f kf a0_0 l0_1 1048576).bind fun t => if t < 0 then some true else
 (laws_toCnf.f kf a0_0 l0_1).bind fun (q1, x) => (spec_NormalCnf.f kf a0_0 x).bind fun (s1, s2, s3) => (impl_NormalCnf.f a0_0 x).bind fun g => (laws_eqCnf.f kf s1 s2 s1 s2).bind fun b1 => (laws_eqCnf.f kf a0_0 x a0_0 x).bind fun b2 => (markSSv (x.length + 1) x 1 0).bind fun (p1, p2) => (markSSv (s2.length + 1) s2 1 0).bind fun (m1, m2) => (laws_heldCnf.f kf s1 m2 1).bind fun hh =>
 if a0_0 = q1 ∧ g = (s1, s2, s3) ∧ b1 = true ∧ b2 = true ∧ m1 = hh ∧ 0 ≤ m1 ∧ 0 ≤ p1 then some true else none
set_option maxHeartbeats 4000000 in
set_option maxRecDepth 100000 in
theorem laws_FnExactNormalCnf.calls (kf : Nat) (a0_0 : Int) (A0_1 : Option Addr) (c0_1 : Nat) (l0_1 : List (List Int)) (r : Bool) (w : World) (hr0_1 : Kd.C (Kd.slice 3 (Kd.int .i64)) w A0_1 l0_1.length l0_1) (hc0_1 : l0_1.length ≤ c0_1) (h : laws_FnExactNormalCnf.f kf a0_0 l0_1 = some r) :
  Calls Try.prog 11 #[.agg #[.int .i64 a0_0, .slice A0_1 l0_1.length c0_1]] w fun e w' => e = .returned (.bool r) ∧ Below w.heap.size w w' := by
 have hu24 := Try.underlying24
 have hu30 := Try.underlying30
 unfold laws_FnExactNormalCnf.f at h
 have hb1 : Below w.heap.size w (w.alloc (.cells #[.int .i64 a0_0, .slice A0_1 l0_1.length c0_1] 24)) := (Below.refl _ _).alloc (Nat.le_refl _) _
 have hW : (w.alloc (.cells #[.int .i64 a0_0, .slice A0_1 l0_1.length c0_1] 24)).heap[w.heap.size]? = some (.cells #[.int .i64 a0_0, .slice A0_1 l0_1.length c0_1] 24 (0, 0)) := by
  show (w.heap.push _)[w.heap.size]? = _
  simp
 obtain ⟨W1, hW1, BX, HB1⟩ : ∃ W1, w.alloc (.cells #[.int .i64 a0_0, .slice A0_1 l0_1.length c0_1] 24) = W1 ∧ W1.heap[w.heap.size]? = some (.cells #[.int .i64 a0_0, .slice A0_1 l0_1.length c0_1] 24 (0, 0)) ∧ Below w.heap.size w W1 := ⟨_, rfl, hW, hb1⟩
 have FA := Aside0.mk (foot_and (foot_blk (ok := fun k_ => k_ < W1.heap.size) BX (blk_lt BX)) (foot_C (Kd.heap_slice 3 (Kd.heap_int .i64)) (Kd.C_below hr0_1 HB1)))
 have HB := Aside0.mk HB1
 have HQ := Aside0.mk (Nat.le_refl W1.heap.size)
 have HW1 := Aside0.mk hW1
 clear hb1 hW hW1 BX HB1 hr0_1
 replace h := Option.bind_eq_some_iff.1 h
 obtain ⟨t, hsz, h⟩ := h
 by_cases ht : t < 0
 ·rw [if_pos ht] at h
  obtain rfl := Option.some.inj h
  clear h
  go_enter Try.func11, Try.ntmps11
  go_upto_region 2 with fail
  rw [HW1.out]
  clear HW1
  have hx0 := (blk_cell FA.out.now.1 0).trans (show _ = some (.int .i64 a0_0) from rfl)
  have hx1 := (blk_cell FA.out.now.1 1).trans (show _ = some (.slice A0_1 l0_1.length c0_1) from rfl)
  go_wp2_with (go_at_call 12; refine (laws_szCnf.calls kf a0_0 A0_1 c0_1 l0_1 1048576 t _ FA.out.now.2 hc0_1 hsz).mono ?_; rintro e w2 ⟨rfl, hb⟩)
  go_ret
  exact ⟨rfl, HB.out.trans (hb.mono HB.out.size)⟩
 rw [if_neg ht] at h
 replace h := Option.bind_eq_some_iff.1 h
 obtain ⟨⟨q1, x⟩, hto, h⟩ := h
 replace h := Option.bind_eq_some_iff.1 h
 obtain ⟨⟨s1, s2, s3⟩, hsp, h⟩ := h
 replace h := Option.bind_eq_some_iff.1 h
 obtain ⟨g, him, h⟩ := h
 replace h := Option.bind_eq_some_iff.1 h
 obtain ⟨b1, heb, h⟩ := h
 replace h := Option.bind_eq_some_iff.1 h
 obtain ⟨b2, hec, h⟩ := h
 replace h := Option.bind_eq_some_iff.1 h
 obtain ⟨⟨p1, p2⟩, hmx, h⟩ := h
 replace h := Option.bind_eq_some_iff.1 h
 obtain ⟨⟨m1, m2⟩, hmg, h⟩ := h
 replace h := Option.bind_eq_some_iff.1 h
 obtain ⟨hh, hhb, h⟩ := h
 try simp only at h
 by_cases hc : a0_0 = q1 ∧ g = (s1, s2, s3) ∧ b1 = true ∧ b2 = true ∧ m1 = hh ∧ 0 ≤ m1 ∧ 0 ≤ p1
 ·rw [if_pos hc] at h
  obtain ⟨rfl, rfl, rfl, rfl, rfl, hm0, hp0⟩ := hc
  obtain rfl := Option.some.inj h
  clear h
  have hne : (s3 != s3) = false := by simp
  have hne2 : (m1 != m1) = false := by simp
  have hlt1 : ¬ (m1 < 0) := by omega
  have hlt2 : ¬ (p1 < 0) := by omega
  go_enter Try.func11, Try.ntmps11
  go_upto_region 2 with fail
  rw [HW1.out]
  clear HW1
  have hx0 := (blk_cell FA.out.now.1 0).trans (show _ = some (.int .i64 a0_0) from rfl)
  have hx1 := (blk_cell FA.out.now.1 1).trans (show _ = some (.slice A0_1 l0_1.length c0_1) from rfl)
  go_upto_region 5 with (go_at_call 12; (with_reducible refine (laws_szCnf.calls kf a0_0 A0_1 c0_1 l0_1 1048576 t _ FA.out.now.2 hc0_1 hsz).mono ?_); rintro e w2 ⟨rfl, hb⟩; clear hx0 hx1; have mFA_ := Aside0.mk (foot_below FA.out hb); have mHB_ := Aside0.mk (HB.out.trans (hb.mono HB.out.size)); have mHQ_ := Aside0.mk (Nat.le_trans HQ.out hb.size); clear FA HB HQ; have FA := mFA_; have HB := mHB_; have HQ := mHQ_; clear mFA_ mHB_ mHQ_; have hx0 := (blk_cell FA.out.now.1 0).trans (show _ = some (.int .i64 a0_0) from rfl); have hx1 := (blk_cell FA.out.now.1 1).trans (show _ = some (.slice A0_1 l0_1.length c0_1) from rfl); clear hb)
  go_upto_region 6 with (first
   | (go_at_call 15; (with_reducible refine (laws_toCnf.calls kf a0_0 A0_1 c0_1 l0_1 a0_0 x _ FA.out.now.2 hc0_1 hto).mono ?_); rintro e w3 ⟨v3, rfl, hR3, hb⟩; clear hx0 hx1; have mFA_ := Aside0.mk (foot_below FA.out hb); have mHB_ := Aside0.mk (HB.out.trans (hb.mono HB.out.size)); have mHQ_ := Aside0.mk (Nat.le_trans HQ.out hb.size); clear FA HB HQ; have FA := mFA_; have HB := mHB_; have HQ := mHQ_; clear mFA_ mHB_ mHQ_; have hx0 := (blk_cell FA.out.now.1 0).trans (show _ = some (.int .i64 a0_0) from rfl); have hx1 := (blk_cell FA.out.now.1 1).trans (show _ = some (.slice A0_1 l0_1.length c0_1) from rfl); clear hb; obtain ⟨A3, c3, ev_, hl3, hC3⟩ := Kd.S_reads hR3; clear hR3; subst ev_)
   | (go_at_call 44; (with_reducible refine (spec_NormalCnf.calls kf a0_0 A3 c3 x s1 s2 s3 _ hC3 hl3 hsp).mono ?_); rintro e w3b ⟨v4, rfl, hN4, hb⟩; clear hC3 hl3; clear hx0 hx1; have mFA_ := Aside0.mk (foot_below FA.out hb); have mHB_ := Aside0.mk (HB.out.trans (hb.mono HB.out.size)); have mHQ_ := Aside0.mk (Nat.le_trans HQ.out hb.size); clear FA HB HQ; have FA := mFA_; have HB := mHB_; have HQ := mHQ_; clear mFA_ mHB_ mHQ_; have hx0 := (blk_cell FA.out.now.1 0).trans (show _ = some (.int .i64 a0_0) from rfl); have hx1 := (blk_cell FA.out.now.1 1).trans (show _ = some (.slice A0_1 l0_1.length c0_1) from rfl); clear hb; obtain ⟨A4, c4, ev4, hl4, hC4⟩ := RwR.reads hN4; clear hN4; subst ev4; have HC4 := Aside0.mk hC4; have HL4 := Aside0.mk hl4; clear hC4 hl4)
   | ((with_reducible refine gate_dst (N := 4) rfl ?_); refine box_event ?hg (N := 4) ?hd (cs := #[.int .i64 0, .slice none 0 0]) (t := 30) ?hr ?_; (case hd => rfl); (case hg => rfl); (case hr => first | (go_simp; done) | (go_simp; rfl)); intro gb4 hgw wb4 hbox hbb; have hcz0 := (blk_cell hbox 0).trans (show _ = some (.int .i64 0) from rfl); have hcz1 := (blk_cell hbox 1).trans (show _ = some (.slice none 0 0) from rfl); have hfz0 := blk_frozen hbox 0; have hfz1 := blk_frozen hbox 1; have hgw_ := Aside0.mk hgw; clear hgw; have hgw := hgw_; clear hgw_)
   | ((with_reducible refine gate_store (t := 30) (p := 4) rfl ?_); refine store_event (t := 30) (p := 4) (v := ?vo_4) (w1 := (wb4.setCell ⟨gb4, 0, none⟩ (.int .i64 s1)).setCell ⟨gb4, 1, none⟩ (.slice A4 s2.length c4)) ?hg ?ho ?hn ?hr ?_; (case ho => rfl); (case hg => rfl); (case hn => rfl); (case hr => first | (go_simp; done) | (go_simp; rfl)); clear hcz0 hcz1 hfz0 hfz1; intro w4 hw_; obtain ⟨hbk, hb⟩ := box2 (t := 30) (a := .int .i64 s1) (v := .slice A4 s2.length c4) hgw.out hbox hbb; rw [← hw_] at hbk hb; clear hw_ hbox hbb; clear hx0 hx1; have mFA_ := Aside0.mk (foot_below FA.out hb); have mHB_ := Aside0.mk (HB.out.trans (hb.mono HB.out.size)); have mHQ_ := Aside0.mk (Nat.le_trans HQ.out hb.size); clear FA HB HQ; have FA := mFA_; have HB := mHB_; have HQ := mHQ_; clear mFA_ mHB_ mHQ_; have hx0 := (blk_cell FA.out.now.1 0).trans (show _ = some (.int .i64 a0_0) from rfl); have hx1 := (blk_cell FA.out.now.1 1).trans (show _ = some (.slice A0_1 l0_1.length c0_1) from rfl); have FW := Aside0.mk (foot_and (foot_blk (ok := fun k_ => k_ < w4.heap.size) hbk (blk_lt hbk)) (foot_C (Kd.heap_slice 3 (Kd.heap_int .i64)) (Kd.C_below HC4.out hb))); clear HC4; have H14 := Aside0.mk HQ.out; clear hgw hb hbk))
  have hw0 := (blk_cell FW.out.now.1 0).trans (show _ = some (.int .i64 s1) from rfl)
  have hw1 := (blk_cell FW.out.now.1 1).trans (show _ = some (.slice A4 s2.length c4) from rfl)
  go_upto_region 7 with (first
   | (go_at_call 15; (with_reducible refine (laws_toCnf.calls kf a0_0 A0_1 c0_1 l0_1 a0_0 x _ FA.out.now.2 hc0_1 hto).mono ?_); rintro e w5 ⟨v5, rfl, hR5, hb⟩; have HX := Aside0.mk (foot_S (Kd.S_lower (Kd.S_mono (ok' := fun k_ => w4.heap.size ≤ k_ ∧ k_ < w5.heap.size) (Kd.S_bound hR5) (fun k_ hk_ => ⟨hk_.2.1, hk_.2.2.1⟩)) HB.out.size)); have H45 := Aside0.mk hb.size; clear hx0 hx1 hw0 hw1; have mFA_ := Aside0.mk (foot_below FA.out hb); have mFW_ := Aside0.mk (foot_below FW.out hb); have mHB_ := Aside0.mk (HB.out.trans (hb.mono HB.out.size)); have mHQ_ := Aside0.mk (Nat.le_trans HQ.out hb.size); clear FA FW HB HQ; have FA := mFA_; have FW := mFW_; have HB := mHB_; have HQ := mHQ_; clear mFA_ mFW_ mHB_ mHQ_; have hx0 := (blk_cell FA.out.now.1 0).trans (show _ = some (.int .i64 a0_0) from rfl); have hx1 := (blk_cell FA.out.now.1 1).trans (show _ = some (.slice A0_1 l0_1.length c0_1) from rfl); have hw0 := (blk_cell FW.out.now.1 0).trans (show _ = some (.int .i64 s1) from rfl); have hw1 := (blk_cell FW.out.now.1 1).trans (show _ = some (.slice A4 s2.length c4) from rfl); clear hb; obtain ⟨A5, c5, ev5⟩ := Kd.S_slice hR5; clear hR5; subst ev5)
   | ((with_reducible refine gate_dst (N := 6) rfl ?_); refine box_event ?hg (N := 6) ?hd (cs := #[.int .i64 0, .slice none 0 0]) (t := 30) ?hr ?_; (case hd => rfl); (case hg => rfl); (case hr => first | (go_simp; done) | (go_simp; rfl)); intro gb5 hgw wb5 hbox hbb; have hcz0 := (blk_cell hbox 0).trans (show _ = some (.int .i64 0) from rfl); have hcz1 := (blk_cell hbox 1).trans (show _ = some (.slice none 0 0) from rfl); have hfz0 := blk_frozen hbox 0; have hfz1 := blk_frozen hbox 1; have hgw_ := Aside0.mk hgw; clear hgw; have hgw := hgw_; clear hgw_)
   | ((with_reducible refine gate_store (t := 30) (p := 6) rfl ?_); refine store_event (t := 30) (p := 6) (v := ?vo_6) (w1 := (wb5.setCell ⟨gb5, 0, none⟩ (.int .i64 a0_0)).setCell ⟨gb5, 1, none⟩ (.slice A5 x.length c5)) ?hg ?ho ?hn ?hr ?_; (case ho => rfl); (case hg => rfl); (case hn => rfl); (case hr => first | (go_simp; done) | (go_simp; rfl)); clear hcz0 hcz1 hfz0 hfz1; intro w6 hw_; obtain ⟨hbk, hb⟩ := box2 (t := 30) (a := .int .i64 a0_0) (v := .slice A5 x.length c5) hgw.out hbox hbb; rw [← hw_] at hbk hb; clear hw_ hbox hbb; clear hx0 hx1 hw0 hw1; have mFA_ := Aside0.mk (foot_below FA.out hb); have mFW_ := Aside0.mk (foot_below FW.out hb); have mHX_ := Aside0.mk (foot_below HX.out hb); have mHB_ := Aside0.mk (HB.out.trans (hb.mono HB.out.size)); have mHQ_ := Aside0.mk (Nat.le_trans HQ.out hb.size); clear FA FW HX HB HQ; have FA := mFA_; have FW := mFW_; have HX := mHX_; have HB := mHB_; have HQ := mHQ_; clear mFA_ mFW_ mHX_ mHB_ mHQ_; have hx0 := (blk_cell FA.out.now.1 0).trans (show _ = some (.int .i64 a0_0) from rfl); have hx1 := (blk_cell FA.out.now.1 1).trans (show _ = some (.slice A0_1 l0_1.length c0_1) from rfl); have hw0 := (blk_cell FW.out.now.1 0).trans (show _ = some (.int .i64 s1) from rfl); have hw1 := (blk_cell FW.out.now.1 1).trans (show _ = some (.slice A4 s2.length c4) from rfl); have HXB := Aside0.mk (foot_blk (ok := fun k_ => k_ = gb5) hbk rfl); have HG5 := Aside0.mk (hgw.out); have H56 := Aside0.mk (blk_lt hbk); have H56b := Aside0.mk hb.size; clear hgw hb hbk))
  have hy0 := (blk_cell HXB.out.now 0).trans (show _ = some (.int .i64 a0_0) from rfl)
  have hy1 := (blk_cell HXB.out.now 1).trans (show _ = some (.slice A5 x.length c5) from rfl)
  go_upto_region 8 with (first
   | (go_at_call 45; (with_reducible refine (impl_NormalCnf.calls a0_0 A5 c5 x s1 s2 s3 _ (Kd.S_reads' HX.out.now).2.2 (Kd.S_reads' HX.out.now).2.1 him).mono ?_); rintro e w7 ⟨v7, rfl, hS7, hb⟩; have HG := Aside0.mk (foot_S (Kd.S_lower (Kd.S_mono (ok' := fun k_ => w6.heap.size ≤ k_ ∧ k_ < w7.heap.size) (Kd.S_bound hS7) (fun k_ hk_ => ⟨hk_.2.1, hk_.2.2.1⟩)) HB.out.size)); have H67 := Aside0.mk hb.size; clear hx0 hx1 hw0 hw1 hy0 hy1; have mFA_ := Aside0.mk (foot_below FA.out hb); have mFW_ := Aside0.mk (foot_below FW.out hb); have mHX_ := Aside0.mk (foot_below HX.out hb); have mHXB_ := Aside0.mk (foot_below HXB.out hb); have mHB_ := Aside0.mk (HB.out.trans (hb.mono HB.out.size)); have mHQ_ := Aside0.mk (Nat.le_trans HQ.out hb.size); clear FA FW HX HXB HB HQ; have FA := mFA_; have FW := mFW_; have HX := mHX_; have HXB := mHXB_; have HB := mHB_; have HQ := mHQ_; clear mFA_ mFW_ mHX_ mHXB_ mHB_ mHQ_; have hx0 := (blk_cell FA.out.now.1 0).trans (show _ = some (.int .i64 a0_0) from rfl); have hx1 := (blk_cell FA.out.now.1 1).trans (show _ = some (.slice A0_1 l0_1.length c0_1) from rfl); have hw0 := (blk_cell FW.out.now.1 0).trans (show _ = some (.int .i64 s1) from rfl); have hw1 := (blk_cell FW.out.now.1 1).trans (show _ = some (.slice A4 s2.length c4) from rfl); have hy0 := (blk_cell HXB.out.now 0).trans (show _ = some (.int .i64 a0_0) from rfl); have hy1 := (blk_cell HXB.out.now 1).trans (show _ = some (.slice A5 x.length c5) from rfl); clear hb; obtain ⟨A7, c7, ev7⟩ := Kd.S_slice hS7; clear hS7; subst ev7)
   | ((with_reducible refine gate_dst (N := 7) rfl ?_); refine box_event ?hg (N := 7) ?hd (cs := #[.int .i64 0, .slice none 0 0]) (t := 30) ?hr ?_; (case hd => rfl); (case hg => rfl); (case hr => first | (go_simp; done) | (go_simp; rfl)); intro gb7 hgw wb7 hbox hbb; have hcz0 := (blk_cell hbox 0).trans (show _ = some (.int .i64 0) from rfl); have hcz1 := (blk_cell hbox 1).trans (show _ = some (.slice none 0 0) from rfl); have hfz0 := blk_frozen hbox 0; have hfz1 := blk_frozen hbox 1; have hgw_ := Aside0.mk hgw; clear hgw; have hgw := hgw_; clear hgw_)
   | ((with_reducible refine gate_store (t := 30) (p := 7) rfl ?_); refine store_event (t := 30) (p := 7) (v := ?vo_7) (w1 := (wb7.setCell ⟨gb7, 0, none⟩ (.int .i64 s1)).setCell ⟨gb7, 1, none⟩ (.slice A7 s2.length c7)) ?hg ?ho ?hn ?hr ?_; (case ho => rfl); (case hg => rfl); (case hn => rfl); (case hr => first | (go_simp; done) | (go_simp; rfl)); clear hcz0 hcz1 hfz0 hfz1; intro w8 hw_; obtain ⟨hbk, hb⟩ := box2 (t := 30) (a := .int .i64 s1) (v := .slice A7 s2.length c7) hgw.out hbox hbb; rw [← hw_] at hbk hb; clear hw_ hbox hbb; clear hx0 hx1 hw0 hw1 hy0 hy1; have mFA_ := Aside0.mk (foot_below FA.out hb); have mFW_ := Aside0.mk (foot_below FW.out hb); have mHX_ := Aside0.mk (foot_below HX.out hb); have mHXB_ := Aside0.mk (foot_below HXB.out hb); have mHG_ := Aside0.mk (foot_below HG.out hb); have mHB_ := Aside0.mk (HB.out.trans (hb.mono HB.out.size)); have mHQ_ := Aside0.mk (Nat.le_trans HQ.out hb.size); clear FA FW HX HXB HG HB HQ; have FA := mFA_; have FW := mFW_; have HX := mHX_; have HXB := mHXB_; have HG := mHG_; have HB := mHB_; have HQ := mHQ_; clear mFA_ mFW_ mHX_ mHXB_ mHG_ mHB_ mHQ_; have hx0 := (blk_cell FA.out.now.1 0).trans (show _ = some (.int .i64 a0_0) from rfl); have hx1 := (blk_cell FA.out.now.1 1).trans (show _ = some (.slice A0_1 l0_1.length c0_1) from rfl); have hw0 := (blk_cell FW.out.now.1 0).trans (show _ = some (.int .i64 s1) from rfl); have hw1 := (blk_cell FW.out.now.1 1).trans (show _ = some (.slice A4 s2.length c4) from rfl); have hy0 := (blk_cell HXB.out.now 0).trans (show _ = some (.int .i64 a0_0) from rfl); have hy1 := (blk_cell HXB.out.now 1).trans (show _ = some (.slice A5 x.length c5) from rfl); have HGB := Aside0.mk (foot_blk (ok := fun k_ => k_ = gb7) hbk rfl); have HG7 := Aside0.mk (hgw.out); clear hgw hb hbk))
  have hg0 := (blk_cell HGB.out.now 0).trans (show _ = some (.int .i64 s1) from rfl)
  have hg1 := (blk_cell HGB.out.now 1).trans (show _ = some (.slice A7 s2.length c7) from rfl)
  go_upto_region 10 with (go_at_call 18; (with_reducible refine (laws_eqCnf.calls kf s1 A7 c7 s2 s1 A4 c4 s2 true _ (Kd.S_reads' HG.out.now).2.2 (Kd.S_reads' HG.out.now).2.1 FW.out.now.2 HL4.out heb).mono ?_); rintro e w9 ⟨rfl, hb⟩; clear hx0 hx1 hw0 hw1 hy0 hy1 hg0 hg1; have mFA_ := Aside0.mk (foot_below FA.out hb); have mFW_ := Aside0.mk (foot_below FW.out hb); have mHX_ := Aside0.mk (foot_below HX.out hb); have mHXB_ := Aside0.mk (foot_below HXB.out hb); have mHG_ := Aside0.mk (foot_below HG.out hb); have mHGB_ := Aside0.mk (foot_below HGB.out hb); have mHB_ := Aside0.mk (HB.out.trans (hb.mono HB.out.size)); have mHQ_ := Aside0.mk (Nat.le_trans HQ.out hb.size); clear FA FW HX HXB HG HGB HB HQ; have FA := mFA_; have FW := mFW_; have HX := mHX_; have HXB := mHXB_; have HG := mHG_; have HGB := mHGB_; have HB := mHB_; have HQ := mHQ_; clear mFA_ mFW_ mHX_ mHXB_ mHG_ mHGB_ mHB_ mHQ_; have hx0 := (blk_cell FA.out.now.1 0).trans (show _ = some (.int .i64 a0_0) from rfl); have hx1 := (blk_cell FA.out.now.1 1).trans (show _ = some (.slice A0_1 l0_1.length c0_1) from rfl); have hw0 := (blk_cell FW.out.now.1 0).trans (show _ = some (.int .i64 s1) from rfl); have hw1 := (blk_cell FW.out.now.1 1).trans (show _ = some (.slice A4 s2.length c4) from rfl); have hy0 := (blk_cell HXB.out.now 0).trans (show _ = some (.int .i64 a0_0) from rfl); have hy1 := (blk_cell HXB.out.now 1).trans (show _ = some (.slice A5 x.length c5) from rfl); have hg0 := (blk_cell HGB.out.now 0).trans (show _ = some (.int .i64 s1) from rfl); have hg1 := (blk_cell HGB.out.now 1).trans (show _ = some (.slice A7 s2.length c7) from rfl); clear hb)
  have hbd := below_drew (Below.refl w9.heap.size w9)
  clear hx0 hx1 hw0 hw1 hy0 hy1 hg0 hg1
  have mFA_ := Aside0.mk (foot_below FA.out hbd)
  have mFW_ := Aside0.mk (foot_below FW.out hbd)
  have mHX_ := Aside0.mk (foot_below HX.out hbd)
  have mHXB_ := Aside0.mk (foot_below HXB.out hbd)
  have mHG_ := Aside0.mk (foot_below HG.out hbd)
  have mHGB_ := Aside0.mk (foot_below HGB.out hbd)
  have mHB_ := Aside0.mk (HB.out.trans (hbd.mono HB.out.size))
  have mHQ_ := Aside0.mk (Nat.le_trans HQ.out hbd.size)
  clear FA FW HX HXB HG HGB HB HQ
  have FA := mFA_
  have FW := mFW_
  have HX := mHX_
  have HXB := mHXB_
  have HG := mHG_
  have HGB := mHGB_
  have HB := mHB_
  have HQ := mHQ_
  clear mFA_ mFW_ mHX_ mHXB_ mHG_ mHGB_ mHB_ mHQ_
  have hx0 := (blk_cell FA.out.now.1 0).trans (show _ = some (.int .i64 a0_0) from rfl)
  have hx1 := (blk_cell FA.out.now.1 1).trans (show _ = some (.slice A0_1 l0_1.length c0_1) from rfl)
  have hw0 := (blk_cell FW.out.now.1 0).trans (show _ = some (.int .i64 s1) from rfl)
  have hw1 := (blk_cell FW.out.now.1 1).trans (show _ = some (.slice A4 s2.length c4) from rfl)
  have hy0 := (blk_cell HXB.out.now 0).trans (show _ = some (.int .i64 a0_0) from rfl)
  have hy1 := (blk_cell HXB.out.now 1).trans (show _ = some (.slice A5 x.length c5) from rfl)
  have hg0 := (blk_cell HGB.out.now 0).trans (show _ = some (.int .i64 s1) from rfl)
  have hg1 := (blk_cell HGB.out.now 1).trans (show _ = some (.slice A7 s2.length c7) from rfl)
  clear hbd
  generalize hw9 : w9.drew = w10 at *
  refine start_ (n := 5) (S := fun w' => w'.cell? ⟨w.heap.size, 0, none⟩ = some (.int .i64 a0_0) ∧ w'.cell? ⟨w.heap.size, 1, none⟩ = some (.slice A0_1 l0_1.length c0_1) ∧ w'.cell? ⟨gb4, 0, none⟩ = some (.int .i64 s1) ∧ w'.cell? ⟨gb4, 1, none⟩ = some (.slice A4 s2.length c4) ∧ w'.cell? ⟨gb5, 0, none⟩ = some (.int .i64 a0_0) ∧ w'.cell? ⟨gb5, 1, none⟩ = some (.slice A5 x.length c5) ∧ w'.cell? ⟨gb7, 0, none⟩ = some (.int .i64 s1) ∧ w'.cell? ⟨gb7, 1, none⟩ = some (.slice A7 s2.length c7)) (ds := []) #[false, false, false, false, false] (by kernel_rfl) rfl rfl (by rw [hw9]; exact ⟨hx0, hx1, hw0, hw1, hy0, hy1, hg0, hg1⟩) (fun hHeld => ?_)
  refine with_tabW lawT_tab lawT_bits (fun HT_ HW_ => ?_)
  rw [hw9] at hHeld ⊢
  clear hw9
  refine take_ (i := 0) (N := some 41) (v := ?_) (a' := ?_) #[true, false, false, false, false] rfl rfl (take_ofW HT_.out HW_.out (by kernel_rfl)) (fun _ _ _ h => h) (Or.inl ⟨by rfl, ?_⟩) hHeld ?_ ?_
  rotate_left
  ·rintro w' ⟨s0, s1, s2, s3, s4, s5, s6, s7⟩
   go_simp
   with_reducible rfl
  rotate_left
  ·simp only [Act.put, List.setIfInBounds_toArray, List.set_cons_zero, List.set_cons_succ, i64_w, i32_w]
   rfl
  refine take_ (i := 1) (N := some 42) (v := ?_) (a' := ?_) #[true, true, false, false, false] rfl rfl (take_ofW HT_.out HW_.out (by kernel_rfl)) (fun _ _ _ h => h) (Or.inl ⟨by rfl, ?_⟩) hHeld ?_ ?_
  rotate_left
  ·rintro w' ⟨s0, s1, s2, s3, s4, s5, s6, s7⟩
   go_simp
   with_reducible rfl
  rotate_left
  ·simp only [Act.put, List.setIfInBounds_toArray, List.set_cons_zero, List.set_cons_succ, i64_w, i32_w]
   rfl
  refine one_ (i := 2) (N := some 43) #[true, true, true, false, false] rfl rfl (one_of HT_.out (by kernel_rfl)) (by decide) (fun K hK => ?_)
  refine call_ 15 #[.agg #[.int .i64 a0_0, .slice A0_1 l0_1.length c0_1]] (by rfl) rfl ?hrun2 ?h2
  case hrun2 =>
   have he := enters_of Try.func15 (by kernel_rfl) rfl
   unfold execOp
   simp [resolve, Deferred.ofValue, invoke, Act.eval, he]
  refine (laws_toCnf.calls kf a0_0 A0_1 c0_1 l0_1 a0_0 x _ FA.out.now.2 hc0_1 hto).mono ?_
  rintro e w11 ⟨v10, rfl, hR10, hb⟩
  refine ⟨_, rfl, ?_⟩
  clear hx0 hx1 hw0 hw1 hy0 hy1 hg0 hg1
  have mFA_ := Aside0.mk (foot_below FA.out hb)
  have mFW_ := Aside0.mk (foot_below FW.out hb)
  have mHX_ := Aside0.mk (foot_below HX.out hb)
  have mHXB_ := Aside0.mk (foot_below HXB.out hb)
  have mHG_ := Aside0.mk (foot_below HG.out hb)
  have mHGB_ := Aside0.mk (foot_below HGB.out hb)
  have mHB_ := Aside0.mk (HB.out.trans (hb.mono HB.out.size))
  have mHQ_ := Aside0.mk (Nat.le_trans HQ.out hb.size)
  clear FA FW HX HXB HG HGB HB HQ
  have FA := mFA_
  have FW := mFW_
  have HX := mHX_
  have HXB := mHXB_
  have HG := mHG_
  have HGB := mHGB_
  have HB := mHB_
  have HQ := mHQ_
  clear mFA_ mFW_ mHX_ mHXB_ mHG_ mHGB_ mHB_ mHQ_
  have hx0 := (blk_cell FA.out.now.1 0).trans (show _ = some (.int .i64 a0_0) from rfl)
  have hx1 := (blk_cell FA.out.now.1 1).trans (show _ = some (.slice A0_1 l0_1.length c0_1) from rfl)
  have hw0 := (blk_cell FW.out.now.1 0).trans (show _ = some (.int .i64 s1) from rfl)
  have hw1 := (blk_cell FW.out.now.1 1).trans (show _ = some (.slice A4 s2.length c4) from rfl)
  have hy0 := (blk_cell HXB.out.now 0).trans (show _ = some (.int .i64 a0_0) from rfl)
  have hy1 := (blk_cell HXB.out.now 1).trans (show _ = some (.slice A5 x.length c5) from rfl)
  have hg0 := (blk_cell HGB.out.now 0).trans (show _ = some (.int .i64 s1) from rfl)
  have hg1 := (blk_cell HGB.out.now 1).trans (show _ = some (.slice A7 s2.length c7) from rfl)
  clear hb
  obtain ⟨A10, c10, ev_, hl10, hC10⟩ := Kd.S_reads hR10
  clear hR10
  subst ev_
  refine hK.out _ _ ⟨hx0, hx1, hw0, hw1, hy0, hy1, hg0, hg1⟩ (fun hHeld => ?_)
  clear hK K
  refine norm_ (a' := ?_) ?_ ?_
  rotate_left
  ·show Act.put _ (some 43) _ = _
   simp only [Act.put, List.setIfInBounds_toArray, List.set_cons_zero, List.set_cons_succ, i64_w, i32_w]
   rfl
  refine one_ (i := 3) (N := some 44) #[true, true, true, true, false] rfl rfl (one_of HT_.out (by kernel_rfl)) (by decide) (fun K hK => ?_)
  refine call_ 18 #[.agg #[.int .i64 a0_0, .slice A5 x.length c5], .agg #[.int .i64 a0_0, .slice A10 x.length c10]] (by rfl) rfl ?hrun3 ?h3
  case hrun3 =>
   have he := enters_of Try.func18 (by kernel_rfl) rfl
   unfold execOp
   simp [resolve, Deferred.ofValue, invoke, Act.eval, he]
  refine (laws_eqCnf.calls kf a0_0 A5 c5 x a0_0 A10 c10 x true _ (Kd.S_reads' HX.out.now).2.2 (Kd.S_reads' HX.out.now).2.1 hC10 hl10 hec).mono ?_
  rintro e w12 ⟨rfl, hb⟩
  refine ⟨_, rfl, ?_⟩
  clear hC10 hl10
  clear hx0 hx1 hw0 hw1 hy0 hy1 hg0 hg1
  have mFA_ := Aside0.mk (foot_below FA.out hb)
  have mFW_ := Aside0.mk (foot_below FW.out hb)
  have mHX_ := Aside0.mk (foot_below HX.out hb)
  have mHXB_ := Aside0.mk (foot_below HXB.out hb)
  have mHG_ := Aside0.mk (foot_below HG.out hb)
  have mHGB_ := Aside0.mk (foot_below HGB.out hb)
  have mHB_ := Aside0.mk (HB.out.trans (hb.mono HB.out.size))
  have mHQ_ := Aside0.mk (Nat.le_trans HQ.out hb.size)
  clear FA FW HX HXB HG HGB HB HQ
  have FA := mFA_
  have FW := mFW_
  have HX := mHX_
  have HXB := mHXB_
  have HG := mHG_
  have HGB := mHGB_
  have HB := mHB_
  have HQ := mHQ_
  clear mFA_ mFW_ mHX_ mHXB_ mHG_ mHGB_ mHB_ mHQ_
  have hx0 := (blk_cell FA.out.now.1 0).trans (show _ = some (.int .i64 a0_0) from rfl)
  have hx1 := (blk_cell FA.out.now.1 1).trans (show _ = some (.slice A0_1 l0_1.length c0_1) from rfl)
  have hw0 := (blk_cell FW.out.now.1 0).trans (show _ = some (.int .i64 s1) from rfl)
  have hw1 := (blk_cell FW.out.now.1 1).trans (show _ = some (.slice A4 s2.length c4) from rfl)
  have hy0 := (blk_cell HXB.out.now 0).trans (show _ = some (.int .i64 a0_0) from rfl)
  have hy1 := (blk_cell HXB.out.now 1).trans (show _ = some (.slice A5 x.length c5) from rfl)
  have hg0 := (blk_cell HGB.out.now 0).trans (show _ = some (.int .i64 s1) from rfl)
  have hg1 := (blk_cell HGB.out.now 1).trans (show _ = some (.slice A7 s2.length c7) from rfl)
  clear hb
  refine hK.out _ _ ⟨hx0, hx1, hw0, hw1, hy0, hy1, hg0, hg1⟩ (fun hHeld => ?_)
  clear hK K
  refine norm_ (a' := ?_) ?_ ?_
  rotate_left
  ·show Act.put _ (some 44) _ = _
   simp only [Act.put, List.setIfInBounds_toArray, List.set_cons_zero, List.set_cons_succ, i64_w, i32_w]
   rfl
  refine pure_ (i := 4) (N := some 45) (v := ?_) (a' := ?_) #[true, true, true, true, true] rfl rfl (any_of HT_.out (by kernel_rfl)) (fun _ _ _ h => h) (Or.inl ⟨by rfl, ?_⟩) ?_ ?_
  rotate_left
  ·intro w'
   go_simp
   with_reducible rfl
  rotate_left
  ·simp only [Act.put, List.setIfInBounds_toArray, List.set_cons_zero, List.set_cons_succ, i64_w, i32_w]
   rfl
  refine done_ (done_of HT_.out (by kernel_rfl)) ?_
  clear hHeld HT_ HW_
  go_upto_region 13 with fail
  go_upto_region 14 with (go_at_call 26; (with_reducible refine (markCnf_val (x.length + 1) p1 p2 (fun k_ => w4.heap.size ≤ k_ ∧ k_ < w5.heap.size) (.slice A5 x.length c5) x a0_0 1 w _ HB.out HX.out.now hmx).mono ?_); rintro e w13 ⟨rfl, -, hbB, hbK⟩; clear HX; clear hx0 hx1 hw0 hw1 hy0 hy1 hg0 hg1; have mFA_ := Aside0.mk (foot_kept FA.out hbK (fun k_ hk_ hs_ => by have g1_ : k_ < W1.heap.size := hk_; have g2_ : w4.heap.size ≤ k_ ∧ k_ < w5.heap.size := hs_; have := H14.out; have := H45.out; have := HG5.out; have := H56.out; have := H67.out; have := HG7.out; omega)); have mFW_ := Aside0.mk (foot_kept FW.out hbK (fun k_ hk_ hs_ => by have g1_ : k_ < w4.heap.size := hk_; have g2_ : w4.heap.size ≤ k_ ∧ k_ < w5.heap.size := hs_; have := H14.out; have := H45.out; have := HG5.out; have := H56.out; have := H67.out; have := HG7.out; omega)); have mHXB_ := Aside0.mk (foot_kept HXB.out hbK (fun k_ hk_ hs_ => by have g1_ : k_ = gb5 := hk_; have g2_ : w4.heap.size ≤ k_ ∧ k_ < w5.heap.size := hs_; have := H14.out; have := H45.out; have := HG5.out; have := H56.out; have := H67.out; have := HG7.out; omega)); have mHG_ := Aside0.mk (foot_kept HG.out hbK (fun k_ hk_ hs_ => by have g1_ : w6.heap.size ≤ k_ ∧ k_ < w7.heap.size := hk_; have g2_ : w4.heap.size ≤ k_ ∧ k_ < w5.heap.size := hs_; have := H14.out; have := H45.out; have := HG5.out; have := H56.out; have := H67.out; have := HG7.out; omega)); have mHGB_ := Aside0.mk (foot_kept HGB.out hbK (fun k_ hk_ hs_ => by have g1_ : k_ = gb7 := hk_; have g2_ : w4.heap.size ≤ k_ ∧ k_ < w5.heap.size := hs_; have := H14.out; have := H45.out; have := HG5.out; have := H56.out; have := H67.out; have := HG7.out; omega)); have mHB_ := Aside0.mk (hbB); have mHQ_ := Aside0.mk (Nat.le_trans HQ.out hbK.1); clear FA FW HXB HG HGB HB HQ; have FA := mFA_; have FW := mFW_; have HXB := mHXB_; have HG := mHG_; have HGB := mHGB_; have HB := mHB_; have HQ := mHQ_; clear mFA_ mFW_ mHXB_ mHG_ mHGB_ mHB_ mHQ_; have hx0 := (blk_cell FA.out.now.1 0).trans (show _ = some (.int .i64 a0_0) from rfl); have hx1 := (blk_cell FA.out.now.1 1).trans (show _ = some (.slice A0_1 l0_1.length c0_1) from rfl); have hw0 := (blk_cell FW.out.now.1 0).trans (show _ = some (.int .i64 s1) from rfl); have hw1 := (blk_cell FW.out.now.1 1).trans (show _ = some (.slice A4 s2.length c4) from rfl); have hy0 := (blk_cell HXB.out.now 0).trans (show _ = some (.int .i64 a0_0) from rfl); have hy1 := (blk_cell HXB.out.now 1).trans (show _ = some (.slice A5 x.length c5) from rfl); have hg0 := (blk_cell HGB.out.now 0).trans (show _ = some (.int .i64 s1) from rfl); have hg1 := (blk_cell HGB.out.now 1).trans (show _ = some (.slice A7 s2.length c7) from rfl); clear hbK hbB)
  go_upto_region 17 with (go_at_call 18; (with_reducible refine (laws_eqCnf.calls kf s1 A7 c7 s2 s1 A4 c4 s2 true _ (Kd.S_reads' HG.out.now).2.2 (Kd.S_reads' HG.out.now).2.1 FW.out.now.2 HL4.out heb).mono ?_); rintro e w14 ⟨rfl, hb⟩; clear hx0 hx1 hw0 hw1 hy0 hy1 hg0 hg1; have mFA_ := Aside0.mk (foot_below FA.out hb); have mFW_ := Aside0.mk (foot_below FW.out hb); have mHXB_ := Aside0.mk (foot_below HXB.out hb); have mHG_ := Aside0.mk (foot_below HG.out hb); have mHGB_ := Aside0.mk (foot_below HGB.out hb); have mHB_ := Aside0.mk (HB.out.trans (hb.mono HB.out.size)); have mHQ_ := Aside0.mk (Nat.le_trans HQ.out hb.size); clear FA FW HXB HG HGB HB HQ; have FA := mFA_; have FW := mFW_; have HXB := mHXB_; have HG := mHG_; have HGB := mHGB_; have HB := mHB_; have HQ := mHQ_; clear mFA_ mFW_ mHXB_ mHG_ mHGB_ mHB_ mHQ_; have hx0 := (blk_cell FA.out.now.1 0).trans (show _ = some (.int .i64 a0_0) from rfl); have hx1 := (blk_cell FA.out.now.1 1).trans (show _ = some (.slice A0_1 l0_1.length c0_1) from rfl); have hw0 := (blk_cell FW.out.now.1 0).trans (show _ = some (.int .i64 s1) from rfl); have hw1 := (blk_cell FW.out.now.1 1).trans (show _ = some (.slice A4 s2.length c4) from rfl); have hy0 := (blk_cell HXB.out.now 0).trans (show _ = some (.int .i64 a0_0) from rfl); have hy1 := (blk_cell HXB.out.now 1).trans (show _ = some (.slice A5 x.length c5) from rfl); have hg0 := (blk_cell HGB.out.now 0).trans (show _ = some (.int .i64 s1) from rfl); have hg1 := (blk_cell HGB.out.now 1).trans (show _ = some (.slice A7 s2.length c7) from rfl); clear hb)
  go_upto_region 19 with (go_at_call 26; (with_reducible refine (markCnf_val (s2.length + 1) m1 m2 (fun k_ => w6.heap.size ≤ k_ ∧ k_ < w7.heap.size) (.slice A7 s2.length c7) s2 s1 1 w _ HB.out HG.out.now hmg).mono ?_); rintro e w15 ⟨rfl, hC15, hbB, hbK⟩; obtain ⟨A15, c15, ev15, hl15, hC15⟩ := hC15; clear HG; clear hx0 hx1 hw0 hw1 hy0 hy1 hg0 hg1; have mFA_ := Aside0.mk (foot_kept FA.out hbK (fun k_ hk_ hs_ => by have g1_ : k_ < W1.heap.size := hk_; have g2_ : w6.heap.size ≤ k_ ∧ k_ < w7.heap.size := hs_; have := H14.out; have := H45.out; have := HG5.out; have := H56.out; have := H67.out; have := HG7.out; omega)); have mFW_ := Aside0.mk (foot_kept FW.out hbK (fun k_ hk_ hs_ => by have g1_ : k_ < w4.heap.size := hk_; have g2_ : w6.heap.size ≤ k_ ∧ k_ < w7.heap.size := hs_; have := H14.out; have := H45.out; have := HG5.out; have := H56.out; have := H67.out; have := HG7.out; omega)); have mHXB_ := Aside0.mk (foot_kept HXB.out hbK (fun k_ hk_ hs_ => by have g1_ : k_ = gb5 := hk_; have g2_ : w6.heap.size ≤ k_ ∧ k_ < w7.heap.size := hs_; have := H14.out; have := H45.out; have := HG5.out; have := H56.out; have := H67.out; have := HG7.out; omega)); have mHGB_ := Aside0.mk (foot_kept HGB.out hbK (fun k_ hk_ hs_ => by have g1_ : k_ = gb7 := hk_; have g2_ : w6.heap.size ≤ k_ ∧ k_ < w7.heap.size := hs_; have := H14.out; have := H45.out; have := HG5.out; have := H56.out; have := H67.out; have := HG7.out; omega)); have mHB_ := Aside0.mk (hbB); have mHQ_ := Aside0.mk (Nat.le_trans HQ.out hbK.1); clear FA FW HXB HGB HB HQ; have FA := mFA_; have FW := mFW_; have HXB := mHXB_; have HGB := mHGB_; have HB := mHB_; have HQ := mHQ_; clear mFA_ mFW_ mHXB_ mHGB_ mHB_ mHQ_; have hx0 := (blk_cell FA.out.now.1 0).trans (show _ = some (.int .i64 a0_0) from rfl); have hx1 := (blk_cell FA.out.now.1 1).trans (show _ = some (.slice A0_1 l0_1.length c0_1) from rfl); have hw0 := (blk_cell FW.out.now.1 0).trans (show _ = some (.int .i64 s1) from rfl); have hw1 := (blk_cell FW.out.now.1 1).trans (show _ = some (.slice A4 s2.length c4) from rfl); have hy0 := (blk_cell HXB.out.now 0).trans (show _ = some (.int .i64 a0_0) from rfl); have hy1 := (blk_cell HXB.out.now 1).trans (show _ = some (.slice A5 x.length c5) from rfl); have hg0 := (blk_cell HGB.out.now 0).trans (show _ = some (.int .i64 s1) from rfl); have hg1 := (blk_cell HGB.out.now 1).trans (show _ = some (.slice A7 s2.length c7) from rfl); have HM := Aside0.mk (foot_C (Kd.heap_slice 3 (Kd.heap_int .i64)) hC15); have HLM := Aside0.mk hl15; have HEM := Aside0.mk ev15; clear hbK hbB hC15 hl15 ev15)
  go_upto_region 24 with (go_at_call 46; (with_reducible refine (heldC_at kf s1 A7 c7 s2.length A15 c15 m2 1 m1 _ HEM.out HLM.out HM.out.now hhb).mono ?_); rintro e w16 ⟨rfl, hb⟩; clear hx0 hx1 hw0 hw1 hy0 hy1 hg0 hg1; have mFA_ := Aside0.mk (foot_below FA.out hb); have mFW_ := Aside0.mk (foot_below FW.out hb); have mHXB_ := Aside0.mk (foot_below HXB.out hb); have mHGB_ := Aside0.mk (foot_below HGB.out hb); have mHM_ := Aside0.mk (foot_below HM.out hb); have mHB_ := Aside0.mk (HB.out.trans (hb.mono HB.out.size)); have mHQ_ := Aside0.mk (Nat.le_trans HQ.out hb.size); clear FA FW HXB HGB HM HB HQ; have FA := mFA_; have FW := mFW_; have HXB := mHXB_; have HGB := mHGB_; have HM := mHM_; have HB := mHB_; have HQ := mHQ_; clear mFA_ mFW_ mHXB_ mHGB_ mHM_ mHB_ mHQ_; have hx0 := (blk_cell FA.out.now.1 0).trans (show _ = some (.int .i64 a0_0) from rfl); have hx1 := (blk_cell FA.out.now.1 1).trans (show _ = some (.slice A0_1 l0_1.length c0_1) from rfl); have hw0 := (blk_cell FW.out.now.1 0).trans (show _ = some (.int .i64 s1) from rfl); have hw1 := (blk_cell FW.out.now.1 1).trans (show _ = some (.slice A4 s2.length c4) from rfl); have hy0 := (blk_cell HXB.out.now 0).trans (show _ = some (.int .i64 a0_0) from rfl); have hy1 := (blk_cell HXB.out.now 1).trans (show _ = some (.slice A5 x.length c5) from rfl); have hg0 := (blk_cell HGB.out.now 0).trans (show _ = some (.int .i64 s1) from rfl); have hg1 := (blk_cell HGB.out.now 1).trans (show _ = some (.slice A7 s2.length c7) from rfl); clear hb)
  go_upto_region 25 with (first
   | (go_at_call 15; (with_reducible refine (laws_toCnf.calls kf a0_0 A0_1 c0_1 l0_1 a0_0 x _ FA.out.now.2 hc0_1 hto).mono ?_); rintro e w17 ⟨v17, rfl, hR17, hb⟩; clear hx0 hx1 hw0 hw1 hy0 hy1 hg0 hg1; have mFA_ := Aside0.mk (foot_below FA.out hb); have mFW_ := Aside0.mk (foot_below FW.out hb); have mHXB_ := Aside0.mk (foot_below HXB.out hb); have mHGB_ := Aside0.mk (foot_below HGB.out hb); have mHM_ := Aside0.mk (foot_below HM.out hb); have mHB_ := Aside0.mk (HB.out.trans (hb.mono HB.out.size)); have mHQ_ := Aside0.mk (Nat.le_trans HQ.out hb.size); clear FA FW HXB HGB HM HB HQ; have FA := mFA_; have FW := mFW_; have HXB := mHXB_; have HGB := mHGB_; have HM := mHM_; have HB := mHB_; have HQ := mHQ_; clear mFA_ mFW_ mHXB_ mHGB_ mHM_ mHB_ mHQ_; have hx0 := (blk_cell FA.out.now.1 0).trans (show _ = some (.int .i64 a0_0) from rfl); have hx1 := (blk_cell FA.out.now.1 1).trans (show _ = some (.slice A0_1 l0_1.length c0_1) from rfl); have hw0 := (blk_cell FW.out.now.1 0).trans (show _ = some (.int .i64 s1) from rfl); have hw1 := (blk_cell FW.out.now.1 1).trans (show _ = some (.slice A4 s2.length c4) from rfl); have hy0 := (blk_cell HXB.out.now 0).trans (show _ = some (.int .i64 a0_0) from rfl); have hy1 := (blk_cell HXB.out.now 1).trans (show _ = some (.slice A5 x.length c5) from rfl); have hg0 := (blk_cell HGB.out.now 0).trans (show _ = some (.int .i64 s1) from rfl); have hg1 := (blk_cell HGB.out.now 1).trans (show _ = some (.slice A7 s2.length c7) from rfl); clear hb; obtain ⟨A17, c17, ev_, hl17, hC17⟩ := Kd.S_reads hR17; clear hR17; subst ev_)
   | (go_at_call 45; (with_reducible refine (impl_NormalCnf.calls a0_0 A17 c17 x s1 s2 s3 _ hC17 hl17 him).mono ?_); rintro e w18 ⟨v18, rfl, hS18, hb⟩; clear hC17 hl17; clear hx0 hx1 hw0 hw1 hy0 hy1 hg0 hg1; have mFA_ := Aside0.mk (foot_below FA.out hb); have mFW_ := Aside0.mk (foot_below FW.out hb); have mHXB_ := Aside0.mk (foot_below HXB.out hb); have mHGB_ := Aside0.mk (foot_below HGB.out hb); have mHM_ := Aside0.mk (foot_below HM.out hb); have mHB_ := Aside0.mk (HB.out.trans (hb.mono HB.out.size)); have mHQ_ := Aside0.mk (Nat.le_trans HQ.out hb.size); clear FA FW HXB HGB HM HB HQ; have FA := mFA_; have FW := mFW_; have HXB := mHXB_; have HGB := mHGB_; have HM := mHM_; have HB := mHB_; have HQ := mHQ_; clear mFA_ mFW_ mHXB_ mHGB_ mHM_ mHB_ mHQ_; have hx0 := (blk_cell FA.out.now.1 0).trans (show _ = some (.int .i64 a0_0) from rfl); have hx1 := (blk_cell FA.out.now.1 1).trans (show _ = some (.slice A0_1 l0_1.length c0_1) from rfl); have hw0 := (blk_cell FW.out.now.1 0).trans (show _ = some (.int .i64 s1) from rfl); have hw1 := (blk_cell FW.out.now.1 1).trans (show _ = some (.slice A4 s2.length c4) from rfl); have hy0 := (blk_cell HXB.out.now 0).trans (show _ = some (.int .i64 a0_0) from rfl); have hy1 := (blk_cell HXB.out.now 1).trans (show _ = some (.slice A5 x.length c5) from rfl); have hg0 := (blk_cell HGB.out.now 0).trans (show _ = some (.int .i64 s1) from rfl); have hg1 := (blk_cell HGB.out.now 1).trans (show _ = some (.slice A7 s2.length c7) from rfl); clear hb; obtain ⟨A8, c8, ev8, hl8, hC8⟩ := Kd.S_reads hS18; clear hS18; subst ev8; have HC8 := Aside0.mk hC8; have HL8 := Aside0.mk hl8; clear hC8 hl8)
   | ((with_reducible refine gate_dst (N := 12) rfl ?_); refine box_event ?hg (N := 12) ?hd (cs := #[.int .i64 0, .slice none 0 0]) (t := 30) ?hr ?_; (case hd => rfl); (case hg => rfl); (case hr => first | (go_simp; done) | (go_simp; rfl)); intro gb9 hgw wb9 hbox hbb; have hcz0 := (blk_cell hbox 0).trans (show _ = some (.int .i64 0) from rfl); have hcz1 := (blk_cell hbox 1).trans (show _ = some (.slice none 0 0) from rfl); have hfz0 := blk_frozen hbox 0; have hfz1 := blk_frozen hbox 1; have hgw_ := Aside0.mk hgw; clear hgw; have hgw := hgw_; clear hgw_)
   | ((with_reducible refine gate_store (t := 30) (p := 12) rfl ?_); refine store_event (t := 30) (p := 12) (v := ?vo_12) (w1 := (wb9.setCell ⟨gb9, 0, none⟩ (.int .i64 s1)).setCell ⟨gb9, 1, none⟩ (.slice A8 s2.length c8)) ?hg ?ho ?hn ?hr ?_; (case ho => rfl); (case hg => rfl); (case hn => rfl); (case hr => first | (go_simp; done) | (go_simp; rfl)); clear hcz0 hcz1 hfz0 hfz1; intro w19 hw_; obtain ⟨hbk, hb⟩ := box2 (t := 30) (a := .int .i64 s1) (v := .slice A8 s2.length c8) hgw.out hbox hbb; rw [← hw_] at hbk hb; clear hw_ hbox hbb; clear hx0 hx1 hw0 hw1 hy0 hy1 hg0 hg1; have mFA_ := Aside0.mk (foot_below FA.out hb); have mFW_ := Aside0.mk (foot_below FW.out hb); have mHXB_ := Aside0.mk (foot_below HXB.out hb); have mHGB_ := Aside0.mk (foot_below HGB.out hb); have mHM_ := Aside0.mk (foot_below HM.out hb); have mHB_ := Aside0.mk (HB.out.trans (hb.mono HB.out.size)); have mHQ_ := Aside0.mk (Nat.le_trans HQ.out hb.size); clear FA FW HXB HGB HM HB HQ; have FA := mFA_; have FW := mFW_; have HXB := mHXB_; have HGB := mHGB_; have HM := mHM_; have HB := mHB_; have HQ := mHQ_; clear mFA_ mFW_ mHXB_ mHGB_ mHM_ mHB_ mHQ_; have hx0 := (blk_cell FA.out.now.1 0).trans (show _ = some (.int .i64 a0_0) from rfl); have hx1 := (blk_cell FA.out.now.1 1).trans (show _ = some (.slice A0_1 l0_1.length c0_1) from rfl); have hw0 := (blk_cell FW.out.now.1 0).trans (show _ = some (.int .i64 s1) from rfl); have hw1 := (blk_cell FW.out.now.1 1).trans (show _ = some (.slice A4 s2.length c4) from rfl); have hy0 := (blk_cell HXB.out.now 0).trans (show _ = some (.int .i64 a0_0) from rfl); have hy1 := (blk_cell HXB.out.now 1).trans (show _ = some (.slice A5 x.length c5) from rfl); have hg0 := (blk_cell HGB.out.now 0).trans (show _ = some (.int .i64 s1) from rfl); have hg1 := (blk_cell HGB.out.now 1).trans (show _ = some (.slice A7 s2.length c7) from rfl); have HC8b := Aside0.mk (Kd.C_below HC8.out hb); clear HC8; have hu0 := (blk_cell hbk 0).trans (show _ = some (.int .i64 s1) from rfl); have hu1 := (blk_cell hbk 1).trans (show _ = some (.slice A8 s2.length c8) from rfl); clear hgw hb hbk))
  go_upto_region 28 with (go_at_call 18; (with_reducible refine (laws_eqCnf.calls kf s1 A8 c8 s2 s1 A4 c4 s2 true _ HC8b.out HL8.out FW.out.now.2 HL4.out heb).mono ?_); rintro e w20 ⟨rfl, hb⟩; clear HC8b hu0 hu1; clear hx0 hx1 hw0 hw1 hy0 hy1 hg0 hg1; have mFA_ := Aside0.mk (foot_below FA.out hb); have mFW_ := Aside0.mk (foot_below FW.out hb); have mHXB_ := Aside0.mk (foot_below HXB.out hb); have mHGB_ := Aside0.mk (foot_below HGB.out hb); have mHM_ := Aside0.mk (foot_below HM.out hb); have mHB_ := Aside0.mk (HB.out.trans (hb.mono HB.out.size)); have mHQ_ := Aside0.mk (Nat.le_trans HQ.out hb.size); clear FA FW HXB HGB HM HB HQ; have FA := mFA_; have FW := mFW_; have HXB := mHXB_; have HGB := mHGB_; have HM := mHM_; have HB := mHB_; have HQ := mHQ_; clear mFA_ mFW_ mHXB_ mHGB_ mHM_ mHB_ mHQ_; have hx0 := (blk_cell FA.out.now.1 0).trans (show _ = some (.int .i64 a0_0) from rfl); have hx1 := (blk_cell FA.out.now.1 1).trans (show _ = some (.slice A0_1 l0_1.length c0_1) from rfl); have hw0 := (blk_cell FW.out.now.1 0).trans (show _ = some (.int .i64 s1) from rfl); have hw1 := (blk_cell FW.out.now.1 1).trans (show _ = some (.slice A4 s2.length c4) from rfl); have hy0 := (blk_cell HXB.out.now 0).trans (show _ = some (.int .i64 a0_0) from rfl); have hy1 := (blk_cell HXB.out.now 1).trans (show _ = some (.slice A5 x.length c5) from rfl); have hg0 := (blk_cell HGB.out.now 0).trans (show _ = some (.int .i64 s1) from rfl); have hg1 := (blk_cell HGB.out.now 1).trans (show _ = some (.slice A7 s2.length c7) from rfl); clear hb)
  go_wp2_with (go_at_call 46; (with_reducible refine (heldC_at kf s1 A7 c7 s2.length A15 c15 m2 1 m1 _ HEM.out HLM.out HM.out.now hhb).mono ?_); rintro e w21 ⟨rfl, hb⟩; clear hx0 hx1 hw0 hw1 hy0 hy1 hg0 hg1; have mFA_ := Aside0.mk (foot_below FA.out hb); have mFW_ := Aside0.mk (foot_below FW.out hb); have mHXB_ := Aside0.mk (foot_below HXB.out hb); have mHGB_ := Aside0.mk (foot_below HGB.out hb); have mHM_ := Aside0.mk (foot_below HM.out hb); have mHB_ := Aside0.mk (HB.out.trans (hb.mono HB.out.size)); have mHQ_ := Aside0.mk (Nat.le_trans HQ.out hb.size); clear FA FW HXB HGB HM HB HQ; have FA := mFA_; have FW := mFW_; have HXB := mHXB_; have HGB := mHGB_; have HM := mHM_; have HB := mHB_; have HQ := mHQ_; clear mFA_ mFW_ mHXB_ mHGB_ mHM_ mHB_ mHQ_; have hx0 := (blk_cell FA.out.now.1 0).trans (show _ = some (.int .i64 a0_0) from rfl); have hx1 := (blk_cell FA.out.now.1 1).trans (show _ = some (.slice A0_1 l0_1.length c0_1) from rfl); have hw0 := (blk_cell FW.out.now.1 0).trans (show _ = some (.int .i64 s1) from rfl); have hw1 := (blk_cell FW.out.now.1 1).trans (show _ = some (.slice A4 s2.length c4) from rfl); have hy0 := (blk_cell HXB.out.now 0).trans (show _ = some (.int .i64 a0_0) from rfl); have hy1 := (blk_cell HXB.out.now 1).trans (show _ = some (.slice A5 x.length c5) from rfl); have hg0 := (blk_cell HGB.out.now 0).trans (show _ = some (.int .i64 s1) from rfl); have hg1 := (blk_cell HGB.out.now 1).trans (show _ = some (.slice A7 s2.length c7) from rfl); clear hb)
  go_ret
  exact ⟨rfl, HB.out⟩
 ·rw [if_neg hc] at h
  cases h
end Go.Proofs.Ytelfahcjeldliaa.PFnExactNormalCnf
end
section
set_option linter.unusedVariables false
set_option linter.unusedSimpArgs false
namespace Go.Proofs.Ytelfahcjeldliaa.Reads
open Go.RowKit Go.ChangeShapes Go.WideShapes Go.Deep Go.Proofs.YtelfahcjeldliaaW.PrintWords
def ReadsN (P : Program) (n : Nat) (t : TypeId) {α : Type} (d : Kd α) (wf : α → Prop) : Prop :=
 ∀ (H : Type) (enc : TypeId × Value → H) (w : World) (base : Nat) (spare : Nat → Bool) (held : Bool) (cs : List Value) (x : DataW H × List MemPlace),
  DataW.trod enc P w base spare held n t cs = some x → (x.1.weights P t).all (· ≤ reachBytes) = true → ∃ a : α, d.K w a cs ∧ wf a
def Reads (P : Program) (t : TypeId) {α : Type} (d : Kd α) (wf : α → Prop) : Prop := ∀ n, ReadsN P n t d wf
theorem wf_i64 {z : Int} (h : (Lit.int .i64 z).wf = true) : -9223372036854775808 ≤ z ∧ z ≤ 9223372036854775807 := by
 simp only [Lit.wf, Bool.and_eq_true, decide_eq_true_eq] at h
 exact h
def WFI (z : Int) : Prop := -9223372036854775808 ≤ z ∧ z ≤ 9223372036854775807
def WFL {α : Type} (b : Nat) (wf : α → Prop) (l : List α) : Prop := l.length * b ≤ 140737488351232 ∧ ∀ x ∈ l, wf x
theorem int {P : Program} {n : Nat} {t : TypeId} (ht : P.underlying t = some (.int .i64)) : ReadsN P n t (Kd.int .i64) WFI := by
 intro H enc w base spare held cs x h _
 obtain ⟨z, rfl, rfl, hw⟩ := DataW.trod_int ht h
 exact ⟨z, rfl, wf_i64 hw⟩
theorem all_of {H : Type} {P : Program} {e : TypeId} : ∀ {l : List (DataW H)}, (DataW.weightsAll P e l).all (· ≤ reachBytes) = true → ∀ d ∈ l, (d.weights P e).all (· ≤ reachBytes) = true
 | [], _, d, hd => by cases hd
 | y :: r, h, d, hd => by
  simp only [DataW.weightsAll, List.all_append, Bool.and_eq_true] at h
  rcases List.mem_cons.1 hd with rfl | hd
  ·exact h.1
  ·exact all_of h.2 d hd
theorem slice {P : Program} {n : Nat} {t e : TypeId} {α : Type} {d : Kd α} {wf : α → Prop} {b : Nat} (ht : P.underlying t = some (.slice e)) (hc : P.cellsOf e = d.sz) (hb : P.bytesOf e = b) (he : ∀ m, m < n → ReadsN P m e d wf) :
  ReadsN P n t (Kd.slice e d) (WFL b wf) := by
 intro H enc w base spare held cs x h hr
 cases n with
 | zero => simp [DataW.trod] at h
 | succ n =>
  have h' := h
  simp only [DataW.trod, ht] at h'
  match cs, h' with
  | [.slice none 0 0], h' =>
   refine ⟨[], ⟨none, 0, rfl, Nat.le_refl _, rfl, by simp, fun h => absurd h (Nat.lt_irrefl 0)⟩, by simp, fun x hx => by cases hx⟩
  | [.slice (some a) len cap], h' =>
   simp only at h'
   split at h'
   ·rename_i hcond
    obtain ⟨elems, hel, h2⟩ := Option.bind_eq_some_iff.1 h'
    obtain ⟨rest, hrest, rfl⟩ := Option.map_eq_some_iff.1 h2
    simp only [DataW.weights, ht, List.all_cons, List.all_append, Bool.and_eq_true, hb, List.length_map, decide_eq_true_eq] at hr
    have hlen : elems.length = len := by simpa using mapM_some_length hel
    have hget : ∀ i, i < len → ∃ y : α, wf y ∧ ∃ c, c.length = d.sz ∧ d.K w y c ∧ ∀ j u, c[j]? = some u → w.cell? (a.add (i * d.sz + j)) = some u := by
     intro i hi
     have h3 := mapM_some_get hel i i (by simp [hi])
     rw [List.getElem?_eq_getElem (by omega)] at h3
     obtain ⟨cs', hcs, htr⟩ := Option.bind_eq_some_iff.1 h3
     obtain ⟨y, hK, hw⟩ := he n (Nat.lt_succ_self n) H enc w base spare held cs' _ htr (all_of hr.2.1 _ (List.mem_map.2 ⟨elems[i]'(by omega), List.getElem_mem _, rfl⟩))
     obtain ⟨_, hcl, hat⟩ := World.cells?_some hcs
     rw [hc] at hcl hat
     refine ⟨y, hw, cs', hcl, hK, fun j u hj => ?_⟩
     have hjl : j < d.sz := by
      rw [← hcl]
      exact (List.getElem?_eq_some_iff.1 hj).1
     rw [← Deep.add_add, hat j hjl, hj]
    rcases Nat.eq_zero_or_pos len with hz | hz
    ·subst hz
     refine ⟨[], ⟨some a, cap, rfl, Nat.zero_le _, rfl, by simp, fun h => absurd h (Nat.lt_irrefl 0)⟩, by simp, fun x hx => by cases hx⟩
    have hinh : Inhabited α := ⟨(hget 0 hz).choose⟩
    obtain ⟨f, hf⟩ := choose_lt hget
    refine ⟨(List.range len).map f, ⟨some a, cap, ?_, ?_, ?_, ?_, ?_⟩, ?_, ?_⟩
    ·simp
    ·simpa using hcond.2.1
    ·simp
    ·have := hcond.2.2
     have := hcond.2.1
     simp [maxLen] at *
     omega
    ·intro _
     refine ⟨a, rfl, fun j p hj => ?_⟩
     have hjl : j < len := by
      have := (List.getElem?_eq_some_iff.1 hj).1
      simpa using this
     simp [hjl] at hj
     subst hj
     obtain ⟨_, c, h1, h2, h3⟩ := hf j hjl
     exact ⟨c, h1, h2, h3⟩
    ·have h4 := hr.1
     simp only [reachBytes] at h4
     have : len * b ≤ (elems.length + rest.length) * b := Nat.mul_le_mul_right _ (by omega)
     simp
     omega
    ·intro y hy
     obtain ⟨i, hi, rfl⟩ := List.mem_map.1 hy
     exact (hf i (by simpa using hi)).1
   ·cases h'
theorem intR {P : Program} {t : TypeId} (ht : P.underlying t = some (.int .i64)) : Reads P t (Kd.int .i64) WFI := fun _ => int ht
theorem sliceR {P : Program} {t e : TypeId} {α : Type} {d : Kd α} {wf : α → Prop} {b : Nat} (ht : P.underlying t = some (.slice e)) (hc : P.cellsOf e = d.sz) (hb : P.bytesOf e = b) (he : Reads P e d wf) : Reads P t (Kd.slice e d) (WFL b wf) :=
 fun _ => slice ht hc hb (fun m _ => he m)
def FieldsN (P : Program) (n : Nat) (fs : List Field) (off : Nat) {α : Type} (d : Kd α) (wf : α → Prop) : Prop :=
 ∀ (H : Type) (enc : TypeId × Value → H) (w : World) (base : Nat) (spare : Nat → Bool) (held : Bool) (cs : List Value) (xs : List (DataW H × List MemPlace)),
  (fs.mapM fun f => DataW.trod enc P w base spare held n f.type ((cs.drop f.offset).take (P.cellsOf f.type))) = some xs →
  (DataW.weightsEach P (fs.map (·.type)) (xs.map (·.1))).all (· ≤ reachBytes) = true → cs.length = off + d.sz → ∃ a : α, d.K w a (cs.drop off) ∧ wf a
theorem last {P : Program} {n : Nat} {f : Field} {off : Nat} {α : Type} {d : Kd α} {wf : α → Prop} (ho : f.offset = off) (hc : P.cellsOf f.type = d.sz) (h : ReadsN P n f.type d wf) : FieldsN P n [f] off d wf := by
 intro H enc w base spare held cs xs hm hr hl
 simp only [List.mapM_cons, List.mapM_nil, Option.bind_eq_bind, Option.bind_eq_some_iff, Option.pure_def, Option.some.injEq] at hm
 obtain ⟨y, hy, _, rfl, rfl⟩ := hm
 rw [ho, hc, List.take_of_length_le (by rw [List.length_drop]; omega)] at hy
 simp only [List.map_cons, List.map_nil, DataW.weightsEach, List.append_nil] at hr
 exact h H enc w base spare held _ _ hy hr
theorem more {P : Program} {n : Nat} {f : Field} {fs : List Field} {off : Nat} {α β : Type} {d : Kd α} {d' : Kd β} {wf : α → Prop} {wf' : β → Prop} (ho : f.offset = off) (hc : P.cellsOf f.type = d.sz)
  (h : ReadsN P n f.type d wf) (h' : FieldsN P n fs (off + d.sz) d' wf') : FieldsN P n (f :: fs) off (Kd.pair d d') (fun x => wf x.1 ∧ wf' x.2) := by
 intro H enc w base spare held cs xs hm hr hl
 simp only [List.mapM_cons, Option.bind_eq_bind, Option.bind_eq_some_iff, Option.pure_def, Option.some.injEq] at hm
 obtain ⟨y, hy, ys, hys, rfl⟩ := hm
 simp only [List.map_cons, DataW.weightsEach, List.all_append, Bool.and_eq_true] at hr
 have hl' : cs.length = off + (d.sz + d'.sz) := hl
 rw [ho, hc] at hy
 obtain ⟨a, hK, hw⟩ := h H enc w base spare held _ _ hy hr.1
 obtain ⟨b, hK', hw'⟩ := h' H enc w base spare held cs ys hys hr.2 (by omega)
 refine ⟨(a, b), ⟨_, _, ?_, hK, hK'⟩, hw, hw'⟩
 have := (List.take_append_drop d.sz (cs.drop off)).symm
 rwa [List.drop_drop] at this
theorem struct {P : Program} {n : Nat} {t : TypeId} {fs : Array Field} {α β : Type} {d : Kd α} {wf : α → Prop} (f : β → α) (g : α → β) (hfg : ∀ a, f (g a) = a) (ht : P.underlying t = some (.struct fs)) (hc : P.cellsOf t = d.sz)
  (h : ∀ m, m < n → FieldsN P m fs.toList 0 d wf) : ReadsN P n t (Kd.iso d f) (fun x => wf (f x)) := by
 intro H enc w base spare held cs x hx hr
 cases n with
 | zero => simp [DataW.trod] at hx
 | succ n =>
  simp only [DataW.trod, ht] at hx
  have hx' : cs.length = P.cellsOf t ∧ ∃ xs, (fs.toList.mapM fun f => DataW.trod enc P w base spare held n f.type ((cs.drop f.offset).take (P.cellsOf f.type))) = some xs ∧ (.agg (xs.map (·.1)), xs.flatMap (·.2)) = x := by
   split at hx <;> simp_all
  obtain ⟨hl, xs, hm, rfl⟩ := hx'
  simp only [DataW.weights, ht] at hr
  obtain ⟨a, hK, hw⟩ := h n (Nat.lt_succ_self n) H enc w base spare held cs xs hm hr (by rw [hl, hc]; omega)
  rw [List.drop_zero] at hK
  exact ⟨g a, by show d.K w (f (g a)) cs; rw [hfg]; exact hK, by show wf (f (g a)); rw [hfg]; exact hw⟩
theorem each_of {H : Type} {P : Program} : ∀ {ts : List TypeId} {ds : List (DataW H)} {j : Nat} {t : TypeId} {d : DataW H}, (DataW.weightsEach P ts ds).all (· ≤ reachBytes) = true → ts[j]? = some t → ds[j]? = some d → (d.weights P t).all (· ≤ reachBytes) = true
 | [], _, _, _, _, _, h, _ => by simp at h
 | _ :: _, [], _, _, _, _, _, h => by simp at h
 | t0 :: ts, d0 :: ds, 0, t, d, h, ht, hd => by
  simp only [List.getElem?_cons_zero, Option.some.injEq] at ht hd
  subst ht hd
  simp only [DataW.weightsEach, List.all_append, Bool.and_eq_true] at h
  exact h.1
 | t0 :: ts, d0 :: ds, j + 1, t, d, h, ht, hd => by
  simp only [DataW.weightsEach, List.all_append, Bool.and_eq_true] at h
  exact each_of (j := j) h.2 (by simpa using ht) (by simpa using hd)
theorem arg {H : Type} {enc : TypeId × Value → H} {P : Program} {W : World} {base : Nat} {spare : Nat → Bool} {held : Bool} {t : TypeId} {v : Value} {d : DataW H} {ps : List MemPlace} {ts : List TypeId} {ds : List (DataW H)} {j : Nat} {α : Type} {k : Kd α} {wf : α → Prop}
  (hk : Reads P t k wf) (hsz : (DataW.weightsEach P ts ds).all (· ≤ reachBytes) = true) (ht : ts[j]? = some t) (hd : ds[j]? = some d) (h : DataW.Trod enc P W base spare held t v d ps) : ∃ a : α, k.K W a v.cells.toList ∧ wf a := by
 obtain ⟨fuel, hf⟩ := h
 exact hk fuel H enc W base spare held _ _ hf (each_of hsz ht hd)
end Go.Proofs.Ytelfahcjeldliaa.Reads
end
section
set_option linter.unusedVariables false
namespace Go.Proofs.Ytelfahcjeldliaa.PFnExactNormalCnf
open Go.RowKit Go.Proofs.YtelfahcjeldliaaW.PrintWords Go.Proofs.YtelfahcjeldliaaW.PrintLast Go.Proofs.Ytelfahcjeldliaa
def laws_FnExactNormalCnf.Pure : Prop := ∀ (a0_0 : Int) (l0_1 : List (List Int)), Reads.WFI a0_0 → (Reads.WFL 24 (Reads.WFL 8 Reads.WFI)) l0_1 → ∃ k, laws_FnExactNormalCnf.f k a0_0 l0_1 = some true
end Go.Proofs.Ytelfahcjeldliaa.PFnExactNormalCnf
end
section
set_option linter.unusedVariables false
set_option linter.unusedSimpArgs false
namespace Go.Proofs.Ytelfahcjeldliaa.Plain
open Go.RowKit Go.Proofs.YtelfahcjeldliaaW.PrintWords
section
variable {α β : Type}
theorem ifp {c : Prop} [Decidable c] {f g : Nat → Option α} {r : α} (h : c) (k : Ev f r) : Ev (fun n => if c then f n else g n) r := by
 obtain ⟨K, hK⟩ := k
 exact ⟨K, fun n hn => by simp only [if_pos h]; exact hK n hn⟩
theorem ifn {c : Prop} [Decidable c] {f g : Nat → Option α} {r : α} (h : ¬ c) (k : Ev g r) : Ev (fun n => if c then f n else g n) r := by
 obtain ⟨K, hK⟩ := k
 exact ⟨K, fun n hn => by simp only [if_neg h]; exact hK n hn⟩
theorem bnd {g : Nat → Option α} {f : Nat → α → Option β} {a : α} {r : β} (h : Ev g a) (k : Ev (fun n => f n a) r) : Ev (fun n => (g n).bind (f n)) r := Ev.bind h k
theorem bnd0 {g : Option α} {f : Nat → α → Option β} {a : α} {r : β} (h : g = some a) (k : Ev (fun n => f n a) r) : Ev (fun n => g.bind (f n)) r := by
 obtain ⟨K, hK⟩ := k
 exact ⟨K, fun n hn => by rw [h]; exact hK n hn⟩
theorem stp {g f : Nat → Option α} {r : α} (h : ∀ k, g (k + 1) = f k) (k : Ev f r) : Ev g r := Ev.step h k
theorem evc {g f : Nat → Option α} {r : α} (h : ∀ k, g k = f k) (k : Ev f r) : Ev g r := Ev.congr h k
theorem sm (r : α) : Ev (fun _ => some r) r := Ev.now r
theorem uniq {g : Nat → Option α} {r q : α} (h : Ev g r) (k : Ev g q) : r = q := by
 obtain ⟨K, hK⟩ := h
 obtain ⟨L, hL⟩ := k
 have h1 := hK (K + L) (by omega)
 have h2 := hL (K + L) (by omega)
 exact Option.some.inj (h1.symm.trans h2)
end
theorem up {i n : Int} (h0 : 0 ≤ i) (h : i < n) (hn : n ≤ 9223372036854775807) : wrap64 (i + 1) = i + 1 := by
 unfold wrap64
 omega
theorem w64 {x : Int} (h0 : -9223372036854775808 ≤ x) (h : x ≤ 9223372036854775807) : wrap64 x = x := by
 unfold wrap64
 omega
theorem set_take {α β : Type} (f : α → β) (xs : List α) (out : List β) (i : Nat) (x : α) (hx : xs[i]? = some x) (hl : out.length = xs.length) (h : out.take i = (xs.take i).map f) :
  (out.set i (f x)).take (i + 1) = (xs.take (i + 1)).map f := by
 have hi : i < xs.length := (List.getElem?_eq_some_iff.1 hx).1
 rw [List.take_succ_eq_append_getElem (by simp; omega), List.take_succ_eq_append_getElem hi, List.map_append, List.map_singleton, ← h]
 congr 1
 ·rw [List.take_set]
  apply List.set_eq_of_length_le
  simp
  omega
 ·rw [List.getElem_set_self]
  rw [(List.getElem?_eq_some_iff.1 hx).2]
theorem copy {α β : Type} (f : α → β) (xs : List α) (L : Int → List β → Nat → Option (List β))
  (hend : ∀ out, Ev (L (xs.length : Int) out) out)
  (hstep : ∀ (i : Nat) (out : List β) (r : List β) (x : α), xs[i]? = some x → out.length = xs.length → Ev (L ((i : Int) + 1) (out.set i (f x))) r → Ev (L (i : Int) out) r) :
  ∀ out, out.length = xs.length → Ev (L 0 out) (xs.map f) := by
 have key : ∀ (d i : Nat) (out : List β), i + d = xs.length → out.length = xs.length → out.take i = (xs.take i).map f → Ev (L (i : Int) out) (xs.map f) := by
  intro d
  induction d with
  | zero =>
   intro i out hd hl ht
   have hi : i = xs.length := by omega
   subst hi
   rw [List.take_of_length_le (by omega), List.take_of_length_le (by omega)] at ht
   subst ht
   exact hend _
  | succ d ih =>
   intro i out hd hl ht
   have hi : i < xs.length := by omega
   have hx : xs[i]? = some xs[i] := List.getElem?_eq_getElem hi
   refine hstep i out _ _ hx hl ?_
   have := ih (i + 1) (out.set i (f xs[i])) (by omega) (by simpa using hl) (set_take f xs out i _ hx hl ht)
   rwa [show ((i + 1 : Nat) : Int) = (i : Int) + 1 by omega] at this
 intro out hl
 have := key xs.length 0 out (by omega) hl (by simp)
 simpa using this
theorem same {α : Type} (xs : List α) (L : Int → Nat → Option Bool)
  (hend : Ev (L (xs.length : Int)) true)
  (hstep : ∀ (i : Nat) (x : α), xs[i]? = some x → Ev (L ((i : Int) + 1)) true → Ev (L (i : Int)) true) : Ev (L 0) true := by
 have key : ∀ (d i : Nat), i + d = xs.length → Ev (L (i : Int)) true := by
  intro d
  induction d with
  | zero =>
   intro i hd
   have hi : i = xs.length := by omega
   subst hi
   exact hend
  | succ d ih =>
   intro i hd
   have hi : i < xs.length := by omega
   refine hstep i _ (List.getElem?_eq_getElem hi) ?_
   have := ih (i + 1) (by omega)
   rwa [show ((i + 1 : Nat) : Int) = (i : Int) + 1 by omega] at this
 simpa using key xs.length 0 (by omega)
theorem allL {α : Type} (xs : List α) (q : α → Bool) (L : Int → Nat → Option Bool)
  (hend : Ev (L (xs.length : Int)) true)
  (hstep : ∀ (i : Nat) (x : α) (r : Bool), xs[i]? = some x → Ev (L ((i : Int) + 1)) r → Ev (L (i : Int)) (q x && r)) : Ev (L 0) (xs.all q) := by
 have key : ∀ (d i : Nat), i + d = xs.length → Ev (L (i : Int)) ((xs.drop i).all q) := by
  intro d
  induction d with
  | zero =>
   intro i hd
   have hi : i = xs.length := by omega
   subst hi
   rw [List.drop_length]
   exact hend
  | succ d ih =>
   intro i hd
   have hi : i < xs.length := by omega
   have := ih (i + 1) (by omega)
   rw [show ((i + 1 : Nat) : Int) = (i : Int) + 1 by omega] at this
   rw [List.drop_eq_getElem_cons hi, List.all_cons]
   exact hstep i _ _ (List.getElem?_eq_getElem hi) this
 simpa using key xs.length 0 (by omega)
theorem not_any_not {α : Type} (l : List α) (q : α → Bool) : (!(l.any fun x => !(q x))) = l.all q := by
 induction l with
 | nil => rfl
 | cons a r ih => rw [List.any_cons, List.all_cons, Bool.not_or, Bool.not_not, ih]
theorem getD_some {α : Type} {xs : List α} {i : Nat} {x d : α} (h : xs[i]? = some x) : xs.getD ((i : Int).toNat) d = x := by
 simp [List.getD, h]
end Go.Proofs.Ytelfahcjeldliaa.Plain
end
section
set_option linter.unusedVariables false
set_option linter.unusedSimpArgs false
namespace Go.Proofs.Ytelfahcjeldliaa.Pure
open Go.RowKit Go.Proofs.Ytelfahcjeldliaa Go.Proofs.Ytelfahcjeldliaa.PFnExactNormalCnf Go.Proofs.YtelfahcjeldliaaW.PrintWords Go.Proofs.YtelfahcjeldliaaW.PrintLast Go.Proofs.YtelfahcjeldliaaW.PrintMore Go.Proofs.Ytelfahcjeldliaa.Plain
theorem in_is (x lo hi : Int) : spec_l01In.f x lo hi = some (decide (lo ≤ x) && decide (x ≤ hi)) := by
 unfold spec_l01In.f
 by_cases h : x ≥ lo
 ·rw [if_pos h, decide_eq_true h, Bool.true_and]
 ·rw [if_neg h, decide_eq_false h, Bool.false_and]
def szI (left : Int) (c : List Int) : Int := if left - (c.length : Int) < 0 then -1 else left - (c.length : Int)
theorem szI_le (left : Int) (c : List Int) (h : 0 ≤ left) : szI left c ≤ left := by unfold szI; split <;> omega
theorem szI_is (c : List Int) (left : Int) (h0 : 0 ≤ left) (h1 : left ≤ 1048576) (hc : c.length ≤ 140737488351232) : laws_szIntS.f c left = some (szI left c) := by
 unfold laws_szIntS.f szI
 rw [w64 (by omega) (by omega)]
 by_cases h : left - (c.length : Int) < 0
 ·rw [if_pos h, if_pos h]
 ·rw [if_neg h, if_neg h]
theorem toI_is (l : List Int) (hl : l.length ≤ 35184372088832) : Ev (fun k => laws_toIntS.f k l) l := by
 refine evc (fun k => laws_toIntS.f.eq_1 ..) (ifp (by omega) (ifp (by omega) ?_))
 have := copy (fun x : Int => x) l (fun i out k => laws_toIntS.l0 k l out i) ?_ ?_ (List.replicate (l.length : Int).toNat 0) (by simp)
 ·simpa using this
 ·intro out
  exact stp (fun k => laws_toIntS.l0.eq_2 ..) (ifn (by omega) (sm _))
 ·intro i out r x hx hlen hk
  have hi : i < l.length := (List.getElem?_eq_some_iff.1 hx).1
  refine stp (fun k => laws_toIntS.l0.eq_2 ..) (ifp (by omega) (ifp (by omega) (ifp (by omega) ?_)))
  rw [show rd l (i : Int) = x from getD_some hx, up (by omega) (by omega : (i : Int) < (l.length : Int)) (by omega), Int.toNat_natCast]
  exact hk
theorem eqI_self (l : List Int) (hl : l.length ≤ 140737488351232) : Ev (fun k => laws_eqIntS.f k l l) true := by
 refine evc (fun k => laws_eqIntS.f.eq_1 ..) (ifp rfl ?_)
 refine same l (fun i k => laws_eqIntS.l0 k l l i) ?_ ?_
 ·exact stp (fun k => laws_eqIntS.l0.eq_2 ..) (ifn (by omega) (sm _))
 ·intro i x hx hk
  have hi : i < l.length := (List.getElem?_eq_some_iff.1 hx).1
  refine stp (fun k => laws_eqIntS.l0.eq_2 ..) (ifp (by omega) (ifp (by omega) (ifp (by omega) (ifp rfl ?_))))
  rw [up (by omega) (by omega : (i : Int) < (l.length : Int)) (by omega)]
  exact hk
abbrev RowsOK (l : List (List Int)) : Prop := Reads.WFL 24 (Reads.WFL 8 Reads.WFI) l
theorem rows_len {l : List (List Int)} (h : RowsOK l) : l.length * 24 ≤ 140737488351232 := h.1
theorem row_len {l : List (List Int)} (h : RowsOK l) {i : Nat} {c : List Int} (hc : l[i]? = some c) : c.length * 8 ≤ 140737488351232 := (h.2 c (List.mem_of_getElem? hc)).1
theorem toSS_is (l : List (List Int)) (h : RowsOK l) : Ev (fun k => laws_toIntSS.f k l) l := by
 have hl := rows_len h
 refine evc (fun k => laws_toIntSS.f.eq_1 ..) (ifp (by omega) (ifp (by omega) ?_))
 have := copy (fun x : List Int => x) l (fun i out k => laws_toIntSS.l0 k l out i) ?_ ?_ (List.replicate (l.length : Int).toNat []) (by simp)
 ·simpa using this
 ·intro out
  exact stp (fun k => laws_toIntSS.l0.eq_2 ..) (ifn (by omega) (sm _))
 ·intro i out r x hx hlen hk
  have hi : i < l.length := (List.getElem?_eq_some_iff.1 hx).1
  have hxl := row_len h hx
  refine stp (fun k => laws_toIntSS.l0.eq_2 ..) (ifp (by omega) (ifp (by omega) ?_))
  rw [show rd_L1 l (i : Int) = x from getD_some hx, up (by omega) (by omega : (i : Int) < (l.length : Int)) (by omega), Int.toNat_natCast]
  exact bnd (toI_is x (by omega)) (ifp (by omega) hk)
theorem toCnf_is (a : Int) (l : List (List Int)) (h : RowsOK l) : Ev (fun k => laws_toCnf.f k a l) (a, l) := bnd (toSS_is l h) (sm _)
theorem eqSS_self (l : List (List Int)) (h : RowsOK l) : Ev (fun k => laws_eqIntSS.f k l l) true := by
 have hl := rows_len h
 refine evc (fun k => laws_eqIntSS.f.eq_1 ..) (ifp rfl ?_)
 refine same l (fun i k => laws_eqIntSS.l0 k l l i) ?_ ?_
 ·exact stp (fun k => laws_eqIntSS.l0.eq_2 ..) (ifn (by omega) (sm _))
 ·intro i x hx hk
  have hi : i < l.length := (List.getElem?_eq_some_iff.1 hx).1
  have hxl := row_len h hx
  refine stp (fun k => laws_eqIntSS.l0.eq_2 ..) (ifp (by omega) (ifp (by omega) (ifp (by omega) ?_)))
  rw [show rd_L1 l (i : Int) = x from getD_some hx, up (by omega) (by omega : (i : Int) < (l.length : Int)) (by omega)]
  exact bnd (eqI_self x (by omega)) (ifp rfl hk)
theorem eqCnf_self (a : Int) (l : List (List Int)) (h : RowsOK l) : Ev (fun k => laws_eqCnf.f k a l a l) true :=
 evc (fun k => laws_eqCnf.f.eq_1 ..) (ifp rfl (bnd (eqSS_self l h) (ifp rfl (sm _))))
theorem specClause_is (c : List Int) (vars : Int) (hc : c.length * 8 ≤ 140737488351232) : Ev (fun k => spec_l01Clause.f k c vars) (clauseB c vars) := by
 unfold clauseB
 rw [not_any_not c (fun x => litB x vars)]
 refine evc (fun k => spec_l01Clause.f.eq_1 ..) ?_
 by_cases h : c.length ≤ 12
 ·rw [decide_eq_true h, Bool.true_and]
  refine ifn (by omega) ?_
  refine allL c (fun x => litB x vars) (fun i k => spec_l01Clause.l0 k c vars i) ?_ ?_
  ·exact stp (fun k => spec_l01Clause.l0.eq_2 ..) (ifn (by omega) (sm _))
  ·intro i x r hx hk
   have hi : i < c.length := (List.getElem?_eq_some_iff.1 hx).1
   refine stp (fun k => spec_l01Clause.l0.eq_2 ..) (ifp (by omega) (ifp (by omega) ?_))
   rw [show rd c (i : Int) = x from getD_some hx, up (by omega) (by omega : (i : Int) < (c.length : Int)) (by omega)]
   unfold litB
   by_cases hz : x = 0
   ·refine ifp hz ?_
    rw [decide_eq_false (by simpa using hz)]
    exact sm _
   ·refine ifn hz (bnd0 (in_is _ _ _) ?_)
    rw [decide_eq_true hz, Bool.true_and]
    cases hb : decide (wrap64 (-vars) ≤ x) && decide (x ≤ vars) with
    | true => exact ifp rfl (by simpa using hk)
    | false => exact ifn (by simp) (sm _)
 ·rw [decide_eq_false h, Bool.false_and]
  exact ifp (by omega) (sm _)
theorem specCnf_is (a : Int) (l : List (List Int)) (h : RowsOK l) : Ev (fun k => spec_CnfOK.f k a l) (cnfB a l) := by
 have hl := rows_len h
 unfold cnfB
 rw [not_any_not l (fun c => clauseB c a), ← Bool.and_assoc]
 refine bnd0 (in_is _ _ _) ?_
 cases h1 : decide (0 ≤ a) && decide (a ≤ 40) with
 | false =>
  rw [Bool.false_and]
  exact ifn (by simp) (stp (fun k => spec_CnfOK.j0.eq_2 ..) (ifp rfl (sm _)))
 | true =>
  rw [Bool.true_and]
  refine ifp rfl (stp (fun k => spec_CnfOK.j0.eq_2 ..) ?_)
  by_cases h2 : l.length ≤ 300
  ·rw [decide_eq_true h2, Bool.true_and]
   refine ifn (by simp; omega) ?_
   refine allL l (fun c => clauseB c a) (fun i k => spec_CnfOK.l0 k i a l) ?_ ?_
   ·exact stp (fun k => spec_CnfOK.l0.eq_2 ..) (ifn (by omega) (sm _))
   ·intro i x r hx hk
    have hi : i < l.length := (List.getElem?_eq_some_iff.1 hx).1
    have hxl := row_len h hx
    refine stp (fun k => spec_CnfOK.l0.eq_2 ..) (ifp (by omega) (ifp (by omega) ?_))
    rw [show rd_L1 l (i : Int) = x from getD_some hx, up (by omega) (by omega : (i : Int) < (l.length : Int)) (by omega)]
    refine bnd (specClause_is x a hxl) ?_
    cases hb : clauseB x a with
    | true => exact ifp rfl (by simpa using hk)
    | false => exact ifn (by simp) (sm _)
  ·rw [decide_eq_false h2, Bool.false_and]
   exact ifp (by simp; omega) (sm _)
theorem szSS_sum (l : List (List Int)) (h : RowsOK l) (left : Int) (h0 : 0 ≤ left) (h1 : left ≤ 1048576) : ∃ v : Int, v ≤ 1048576 ∧ Ev (fun k => laws_szIntSS.f k l left) v ∧ (0 ≤ v → (sumL l : Int) ≤ left) := by
 have hl := rows_len h
 by_cases hs : left - (l.length : Int) < 0
 ·exact ⟨-1, by omega, evc (fun k => laws_szIntSS.f.eq_1 ..) (ifp (by rw [w64 (by omega) (by omega)]; exact hs) (sm _)), fun h => by omega⟩
 ·have key : ∀ (d i : Nat) (lf : Int), i + d = l.length → 0 ≤ lf → lf ≤ 1048576 → ∃ v : Int, v ≤ 1048576 ∧ Ev (fun k => laws_szIntSS.l0 k l lf (i : Int)) v ∧ (0 ≤ v → (sumL (l.drop i) : Int) ≤ lf) := by
   intro d
   induction d with
   | zero =>
    intro i lf hi hf0 hf1
    obtain rfl : i = l.length := by omega
    rw [List.drop_length]
    exact ⟨lf, hf1, stp (fun k => laws_szIntSS.l0.eq_2 ..) (ifn (by omega) (sm _)), fun _ => hf0⟩
   | succ d ih =>
    intro i lf hi hf0 hf1
    have hil : i < l.length := by omega
    have hx : l[i]? = some l[i] := List.getElem?_eq_getElem hil
    have hlen := row_len h hx
    have hsz := szI_is l[i] lf hf0 hf1 (by omega)
    have hsum := sumL_drop l i hil
    rw [show l.getD i [] = l[i] by simp [List.getD, hil]] at hsum
    by_cases hn : szI lf l[i] < 0
    ·refine ⟨-1, by omega, stp (fun k => laws_szIntSS.l0.eq_2 ..) (ifp (by omega) (ifp (by omega) ?_)), fun h => by omega⟩
     rw [show rd_L1 l (i : Int) = l[i] from getD_some hx]
     exact bnd0 hsz (ifp hn (sm _))
    ·obtain ⟨v, hv, hev, hvs⟩ := ih (i + 1) (szI lf l[i]) (by omega) (by omega) (by have := szI_le lf l[i] hf0; omega)
     rw [show ((i + 1 : Nat) : Int) = (i : Int) + 1 by omega] at hev
     refine ⟨v, hv, stp (fun k => laws_szIntSS.l0.eq_2 ..) (ifp (by omega) (ifp (by omega) ?_)), fun h0 => ?_⟩
     ·rw [show rd_L1 l (i : Int) = l[i] from getD_some hx, up (by omega) (by omega : (i : Int) < (l.length : Int)) (by omega)]
      exact bnd0 hsz (ifn hn hev)
     ·have h2 := hvs h0
      have h3 : szI lf l[i] = lf - (l[i].length : Int) := by unfold szI at hn ⊢; split at hn <;> simp_all <;> omega
      omega
  obtain ⟨v, hv, hev, hvs⟩ := key l.length 0 (left - (l.length : Int)) (by omega) (by omega) (by omega)
  rw [List.drop_zero] at hvs
  refine ⟨v, hv, evc (fun k => laws_szIntSS.f.eq_1 ..) (ifn (by rw [w64 (by omega) (by omega)]; exact hs) ?_), fun h0 => by have := hvs h0; omega⟩
  rw [w64 (by omega) (by omega)]
  exact hev
theorem szCnf_sum (a : Int) (l : List (List Int)) (h : RowsOK l) (left : Int) (h0 : 0 ≤ left) (h1 : left ≤ 1048576) : ∃ v : Int, v ≤ 1048576 ∧ Ev (fun k => laws_szCnf.f k a l left) v ∧ (0 ≤ v → (sumL l : Int) ≤ left) := by
 obtain ⟨v, hv, hev, hs⟩ := szSS_sum l h left h0 h1
 by_cases hn : v < 0
 ·exact ⟨-1, by omega, bnd hev (ifp hn (sm _)), fun h => by omega⟩
 ·exact ⟨v, hv, bnd hev (ifn hn (sm _)), hs⟩
theorem markN_is (l : List Int) (k0 : Int) (h0 : 0 ≤ k0) (h1 : k0 + (l.length : Int) ≤ 1000000000000000000) : ∃ m : List Int, m.length = l.length ∧ (∀ j : Nat, j < m.length → rd m (j : Int) = k0 + (j : Int)) ∧ Ev (fun k => laws_markIntS.f k l k0) (k0 + (l.length : Int), m) := by
 have key : ∀ (d i : Nat) (x : List Int), i + d = l.length → x.length = l.length → (∀ j : Nat, j < i → rd x (j : Int) = k0 + (j : Int)) → ∃ m : List Int, m.length = l.length ∧ (∀ j : Nat, j < m.length → rd m (j : Int) = k0 + (j : Int)) ∧ Ev (fun k => laws_markIntS.l0 k x (k0 + (i : Int)) (i : Int)) (k0 + (l.length : Int), m) := by
  intro d
  induction d with
  | zero =>
   intro i x hi hx hj
   obtain rfl : i = l.length := by omega
   exact ⟨x, hx, by rw [hx]; exact hj, stp (fun k => laws_markIntS.l0.eq_2 ..) (ifn (by omega) (sm _))⟩
  | succ d ih =>
   intro i x hi hx hj
   obtain ⟨m, m1, m2, m3⟩ := ih (i + 1) (x.set i (k0 + (i : Int))) (by omega) (by simpa using hx) (by
    intro j hlt
    by_cases e : j = i
    ·subst e
     unfold rd
     simp [List.getD, show j < x.length by omega]
    ·have := hj j (by omega)
     unfold rd at this ⊢
     simp only [Int.toNat_natCast] at this ⊢
     rw [List.getD_eq_getElem?_getD, List.getElem?_set_ne (by omega), ← List.getD_eq_getElem?_getD]
     exact this)
   refine ⟨m, m1, m2, stp (fun k => laws_markIntS.l0.eq_2 ..) (ifp (by omega) (ifp (by omega) ?_))⟩
   rw [up (by omega) (by omega : (i : Int) < (l.length : Int)) (by omega), w64 (by omega) (by omega), Int.toNat_natCast]
   rw [show ((i + 1 : Nat) : Int) = (i : Int) + 1 by omega, ← Int.add_assoc] at m3
   exact m3
 obtain ⟨m, m1, m2, m3⟩ := key l.length 0 l (by omega) rfl (fun j hj => absurd hj (Nat.not_lt_zero _))
 refine ⟨m, m1, m2, evc (fun k => laws_markIntS.f.eq_1 ..) ?_⟩
 simpa using m3
theorem heldN_is (m : List Int) (k0 : Int) (h0 : 0 ≤ k0) (h1 : k0 + (m.length : Int) ≤ 1000000000000000000) (hm : ∀ j : Nat, j < m.length → rd m (j : Int) = k0 + (j : Int)) : Ev (fun k => laws_heldIntS.f k m k0) (k0 + (m.length : Int)) := by
 have key : ∀ (d i : Nat), i + d = m.length → Ev (fun k => laws_heldIntS.l0 k m (k0 + (i : Int)) (i : Int)) (k0 + (m.length : Int)) := by
  intro d
  induction d with
  | zero =>
   intro i hi
   obtain rfl : i = m.length := by omega
   exact stp (fun k => laws_heldIntS.l0.eq_2 ..) (ifn (by omega) (sm _))
  | succ d ih =>
   intro i hi
   have := ih (i + 1) (by omega)
   rw [show ((i + 1 : Nat) : Int) = (i : Int) + 1 by omega, ← Int.add_assoc] at this
   refine stp (fun k => laws_heldIntS.l0.eq_2 ..) (ifp (by omega) (ifp (by omega) (ifp (hm i (by omega)) ?_)))
   rw [up (by omega) (by omega : (i : Int) < (m.length : Int)) (by omega), w64 (x := k0 + (i : Int) + 1) (by omega) (by omega)]
   exact this
 have := key m.length 0 (by omega)
 refine evc (fun k => laws_heldIntS.f.eq_1 ..) ?_
 simpa using this
def SS (l : List Int) : Prop := l.Pairwise fun x y => rk x < rk y
theorem ss_ext : ∀ {a b : List Int}, SS a → SS b → (∀ x, x ∈ a ↔ x ∈ b) → a = b
 | [], [], _, _, _ => rfl
 | [], y :: b, _, _, h => by have := (h y).2 List.mem_cons_self; cases this
 | x :: a, [], _, _, h => by have := (h x).1 List.mem_cons_self; cases this
 | x :: a, y :: b, ha, hb, h => by
  have ha1 := List.pairwise_cons.1 ha
  have hb1 := List.pairwise_cons.1 hb
  have e : x = y := by
   rcases List.mem_cons.1 ((h x).1 List.mem_cons_self) with e | e
   ·exact e
   ·rcases List.mem_cons.1 ((h y).2 List.mem_cons_self) with e2 | e2
    ·exact e2.symm
    ·have h1 := hb1.1 x e
     have h2 := ha1.1 y e2
     omega
  subst e
  refine congrArg (x :: ·) (ss_ext ha1.2 hb1.2 (fun z => ⟨fun hz => ?_, fun hz => ?_⟩))
  ·rcases List.mem_cons.1 ((h z).1 (List.mem_cons_of_mem _ hz)) with e | e
   ·subst e
    have := ha1.1 z hz
    omega
   ·exact e
  ·rcases List.mem_cons.1 ((h z).2 (List.mem_cons_of_mem _ hz)) with e | e
   ·subst e
    have := hb1.1 z hz
    omega
   ·exact e
theorem insR_nil (c : Int) : insR c [] = [c] := rfl
theorem insR_cons (c y : Int) (r : List Int) : insR c (y :: r) = if rk y < rk c then y :: insR c r else if y = c then y :: r else c :: y :: r := by
 unfold insR
 by_cases h : rk y < rk c
 ·rw [if_pos h, show cntB c (y :: r) = cntB c r + 1 by rw [cntB, if_pos h]]
  simp only [List.getElem?_cons_succ, List.take_succ_cons, List.drop_succ_cons, List.cons_append]
  split <;> rfl
 ·rw [if_neg h, show cntB c (y :: r) = 0 by rw [cntB, if_neg h]]
  by_cases e : y = c
  ·subst e; simp
  ·rw [if_neg e]
   have e2 : ¬ (y :: r)[0]? = some c := by simpa using e
   rw [if_neg e2]
   rfl
theorem insR_mem (c : Int) : ∀ (l : List Int) (x : Int), x ∈ insR c l ↔ x = c ∨ x ∈ l
 | [], x => by rw [insR_nil]; simp
 | y :: r, x => by
  rw [insR_cons]
  split
  ·rw [List.mem_cons, insR_mem c r x, List.mem_cons]
   constructor
   ·rintro (h | h | h)
    ·exact .inr (.inl h)
    ·exact .inl h
    ·exact .inr (.inr h)
   ·rintro (h | h | h)
    ·exact .inr (.inl h)
    ·exact .inl h
    ·exact .inr (.inr h)
  ·split
   ·rename_i e
    subst e
    rw [List.mem_cons]
    constructor
    ·exact .inr
    ·rintro (h | h)
     ·exact .inl h
     ·exact h
   ·rw [List.mem_cons]
theorem insR_ss (c : Int) : ∀ l : List Int, SS l → SS (insR c l)
 | [], _ => by rw [insR_nil]; exact List.pairwise_singleton _ _
 | y :: r, h => by
  have h1 := List.pairwise_cons.1 h
  rw [insR_cons]
  split
  ·refine List.pairwise_cons.2 ⟨fun z hz => ?_, insR_ss c r h1.2⟩
   rcases (insR_mem c r z).1 hz with e | e
   ·subst e; assumption
   ·exact h1.1 z e
  ·split
   ·exact h
   ·rename_i h2 h3
    have hlt : rk c < rk y := by
     have : rk y ≠ rk c := fun e => h3 (rk_inj e)
     omega
    refine List.pairwise_cons.2 ⟨fun z hz => ?_, h⟩
    rcases List.mem_cons.1 hz with e | e
    ·subst e; exact hlt
    ·have := h1.1 z e
     omega
theorem insAll_mem : ∀ (l o : List Int) (x : Int), x ∈ insAll l o ↔ x ∈ l ∨ x ∈ o
 | [], o, x => by rw [insAll]; simp
 | c :: r, o, x => by
  rw [insAll, insAll_mem r (insR c o) x, insR_mem, List.mem_cons]
  constructor
  ·rintro (h | h | h)
   ·exact .inl (.inr h)
   ·exact .inl (.inl h)
   ·exact .inr h
  ·rintro ((h | h) | h)
   ·exact .inr (.inl h)
   ·exact .inl h
   ·exact .inr (.inr h)
theorem insAll_ss : ∀ (l o : List Int), SS o → SS (insAll l o)
 | [], o, h => h
 | c :: r, o, h => insAll_ss r (insR c o) (insR_ss c o h)
theorem getElem!_list (l : List Int) (j : Nat) (hj : j < l.length) : l.toArray[j]! = l[j] := by
 rw [getElem!_pos l.toArray j (by simpa using hj)]
 simp
theorem compact_mem (l : List Int) (x : Int) : x ∈ Go.Lib.compact l ↔ x ∈ l := by
 unfold Go.Lib.compact Go.Lib.compactUpTo
 simp only [List.mem_map, List.mem_filter, List.mem_range]
 constructor
 ·rintro ⟨j, ⟨hj, -⟩, rfl⟩
  rw [getElem!_list l j hj]
  exact List.getElem_mem hj
 ·intro hx
  obtain ⟨j, hj, e⟩ := List.mem_iff_getElem.1 hx
  have key : ∀ j, j < l.length → l.toArray[j]! = x → ∃ i, (i < l.length ∧ Go.Lib.keeps l.toArray i = true) ∧ l.toArray[i]! = x := by
   intro j
   induction j with
   | zero => intro hj he; exact ⟨0, ⟨hj, Go.Lib.keeps_lt_one _ 0 (by omega)⟩, he⟩
   | succ j ih =>
    intro hj he
    by_cases h : l.toArray[j + 1]! = l.toArray[j + 1 - 1]!
    ·rw [Nat.add_sub_cancel] at h
     exact ih (by omega) (h.symm.trans he)
    ·exact ⟨j + 1, ⟨hj, Go.Lib.keeps_pos h⟩, he⟩
  exact key j hj (by rw [getElem!_list l j hj]; exact e)
theorem compact_ss (l : List Int) (h : l.Pairwise fun x y => rk x ≤ rk y) : SS (Go.Lib.compact l) := by
 unfold Go.Lib.compact Go.Lib.compactUpTo SS
 rw [List.pairwise_map]
 refine List.Pairwise.imp_of_mem ?_ (List.Pairwise.filter _ List.pairwise_lt_range)
 intro i j hi hj hij
 have hi1 := List.mem_filter.1 hi
 have hj1 := List.mem_filter.1 hj
 have hil := List.mem_range.1 hi1.1
 have hjl := List.mem_range.1 hj1.1
 have hk := hj1.2
 unfold Go.Lib.keeps at hk
 have hne : l.toArray[j]! ≠ l.toArray[j - 1]! := by
  rcases of_decide_eq_true hk with h0 | h0
  ·omega
  ·exact h0
 have hp := List.pairwise_iff_getElem.1 h
 rw [getElem!_list l j hjl, getElem!_list l (j - 1) (by omega)] at hne
 rw [getElem!_list l i hil, getElem!_list l j hjl]
 have h1 := hp (j - 1) j (by omega) hjl (by omega)
 have h2 : rk l[i] ≤ rk l[j - 1] := by
  rcases Nat.lt_or_eq_of_le (show i ≤ j - 1 by omega) with e | e
  ·exact hp i (j - 1) hil (by omega) e
  ·simp only [e]; exact Int.le_refl _
 have h3 : rk l[j] ≠ rk l[j - 1] := fun e => hne (rk_inj e)
 omega
theorem ord_is (l : List Int) : insAll l [] = ordL l := by
 have hs : (sortL l).Pairwise fun x y => rk x ≤ rk y := by
  unfold sortL
  refine (List.pairwise_mergeSort (le := leR) (fun a b c h1 h2 => ?_) (fun a b => ?_) l).imp (fun h => of_decide_eq_true h)
  ·exact decide_eq_true (Int.le_trans (of_decide_eq_true h1) (of_decide_eq_true h2))
  ·unfold leR
   rcases Int.le_total (rk a) (rk b) with h | h
   ·rw [decide_eq_true h, Bool.true_or]
   ·rw [decide_eq_true h, Bool.or_true]
 refine ss_ext (insAll_ss l [] List.Pairwise.nil) (compact_ss _ hs) (fun x => ?_)
 show x ∈ insAll l [] ↔ x ∈ Go.Lib.compact (l.mergeSort leR)
 rw [insAll_mem, compact_mem, (List.mergeSort_perm l leR).mem_iff]
 simp
theorem ord_mem (l : List Int) (x : Int) : x ∈ ordL l ↔ x ∈ l := by rw [← ord_is, insAll_mem]; simp
theorem ord_ss (l : List Int) : SS (ordL l) := by rw [← ord_is]; exact insAll_ss l [] List.Pairwise.nil
theorem insAll_len : ∀ (l o : List Int), (insAll l o).length ≤ l.length + o.length
 | [], o => by rw [insAll]; simp
 | c :: r, o => by
  rw [insAll]
  have := insAll_len r (insR c o)
  have := insR_len c o
  simp only [List.length_cons]
  omega
theorem ord_len (l : List Int) : (ordL l).length ≤ l.length := by rw [← ord_is]; simpa using insAll_len l []
theorem opp_is : ∀ l : List Int, SS l → (∀ x ∈ l, inR x ∧ x ≠ 0) → oppB l = l.any fun x => l.contains (-x)
 | [], _, _ => rfl
 | [x], _, h => by
  have := (h x List.mem_cons_self).2
  have e : ¬ x = -x := by omega
  simp [oppB]
  omega
 | x :: y :: r, hs, h => by
  have h1 := List.pairwise_cons.1 hs
  have h2 := List.pairwise_cons.1 h1.2
  have ih := opp_is (y :: r) h1.2 (fun z hz => h z (List.mem_cons_of_mem _ hz))
  rw [oppB, ih]
  have hx := h x List.mem_cons_self
  have hxy := h1.1 y List.mem_cons_self
  have hx0 := hx.2
  -- an opposite of x further on is y
  have key : ∀ z ∈ y :: r, z = -x → y = -x := by
   intro z hz e
   rcases List.mem_cons.1 hz with q | q
   ·rw [← q]; exact e
   ·exfalso
    have a := h2.1 z q
    have y0 := (h y (List.mem_cons_of_mem _ List.mem_cons_self)).2
    subst e
    unfold rk at hxy a
    split at hxy <;> split at hxy <;> split at a <;> (try split at a) <;> omega
  rw [Bool.eq_iff_iff]
  simp only [Bool.or_eq_true, beq_iff_eq, List.any_eq_true, List.contains_iff_mem]
  constructor
  ·rintro (e | ⟨z, hz, hz2⟩)
   ·exact ⟨x, List.mem_cons_self, by rw [show -x = y by omega]; exact List.mem_cons_of_mem _ List.mem_cons_self⟩
   ·exact ⟨z, List.mem_cons_of_mem _ hz, List.mem_cons_of_mem _ hz2⟩
  ·rintro ⟨z, hz, hz2⟩
   rcases List.mem_cons.1 hz with e | e
   ·subst e
    rcases List.mem_cons.1 hz2 with e2 | e2
    ·exfalso; omega
    ·have := key _ e2 rfl
     exact .inl (by omega)
   ·rcases List.mem_cons.1 hz2 with e2 | e2
    ·have := key z e (by omega)
     exact .inl (by omega)
    ·exact .inr ⟨z, e, e2⟩
theorem idx_has (x : Int) : ∀ (l : List Int) (i : Nat), decide (0 ≤ idxL x l i) = l.contains x
 | [], i => rfl
 | y :: r, i => by
  rw [idxL, List.contains_cons]
  by_cases e : x = y
  ·subst e
   rw [if_pos rfl, decide_eq_true (by omega)]
   simp
  ·rw [if_neg e, idx_has x r (i + 1)]
   simp [e]
theorem taut_is {l : List Int} (hs : SS l) (h : ∀ x ∈ l, inR x ∧ x ≠ 0) : tautL l = oppB l := by
 rw [opp_is l hs h]
 unfold tautL
 rw [Bool.eq_iff_iff]
 simp only [List.any_eq_true]
 constructor
 ·rintro ⟨x, hx, h1⟩
  have hb := (h x hx).1
  unfold inR at hb
  rw [w64 (by omega) (by omega), idx_has] at h1
  exact ⟨x, hx, h1⟩
 ·rintro ⟨x, hx, h1⟩
  have hb := (h x hx).1
  unfold inR at hb
  refine ⟨x, hx, ?_⟩
  rw [w64 (by omega) (by omega), idx_has]
  exact h1
theorem markI_ex (l : List Int) (b : Int) (h0 : 0 ≤ b) (h1 : b + (l.length : Int) ≤ 1000000000000000000) : ∃ m : List Int, laws_markIntS.f (l.length + 1) l b = some (b + (l.length : Int), m) ∧ m.length = l.length ∧ ∀ j : Nat, j < m.length → rd m (j : Int) = b + (j : Int) := by
 obtain ⟨r, hr, hrl⟩ := markI_run l.length 0 l b (by omega) h0 (by omega) (by omega)
 obtain ⟨m, m1, m2, m3⟩ := markN_is l b h0 h1
 have hr2 : laws_markIntS.f (l.length + 1) l b = some (b + (l.length : Int), r) := hr
 have key : ∀ e : Nat, laws_markIntS.f (l.length + 1 + e) l b = some (b + (l.length : Int), r) := by
  intro e
  induction e with
  | zero => exact hr2
  | succ e ih => exact laws_markIntS.mono l b (l.length + 1 + e) _ ih
 have hE : Ev (fun k => laws_markIntS.f k l b) (b + (l.length : Int), r) := ⟨l.length + 1, fun k hk => by
  obtain ⟨e, rfl⟩ := Nat.exists_eq_add_of_le hk
  exact key e⟩
 have := uniq hE m3
 obtain rfl : r = m := (Prod.mk.inj this).2
 exact ⟨r, hr2, m1, m2⟩
theorem rowsHeld : ∀ (d kk : Nat) (ys : List (List Int)) (b : Int), kk + d = ys.length → ys.length ≤ 10000000000000 → 0 ≤ b → b + (sumL (ys.drop kk) : Int) ≤ 100000000000000000 → ∃ M : List (List Int), markSSv (d + 1) ys b kk = some (b + (sumL (ys.drop kk) : Int), M) ∧ M.length = ys.length ∧ (∀ j : Nat, j < kk → M[j]? = ys[j]?) ∧ Ev (fun k => laws_heldIntSS.l0 k M b (kk : Int)) (b + (sumL (ys.drop kk) : Int)) := by
 intro d
 induction d with
 | zero =>
  intro kk ys b hk hm h0 h1
  obtain rfl : kk = ys.length := by omega
  rw [List.drop_length, show sumL [] = 0 from rfl, Int.natCast_zero, Int.add_zero]
  exact ⟨ys, by rw [markSSv, if_neg (by omega)], rfl, fun _ _ => rfl, stp (fun k => laws_heldIntSS.l0.eq_2 ..) (ifn (by omega) (sm _))⟩
 | succ d ih =>
  intro kk ys b hk hm h0 h1
  have hlt : kk < ys.length := by omega
  have hsum := sumL_drop ys kk hlt
  rw [hsum, Int.natCast_add] at h1
  obtain ⟨m, e1, e2, e3⟩ := markI_ex (ys.getD kk []) b h0 (by omega)
  have hdr : (ys.set kk m).drop (kk + 1) = ys.drop (kk + 1) := by rw [List.drop_set_of_lt (by omega)]
  obtain ⟨M, f1, f2, f3, f4⟩ := ih (kk + 1) (ys.set kk m) (b + ((ys.getD kk []).length : Int)) (by rw [List.length_set]; omega) (by rw [List.length_set]; exact hm) (by omega) (by rw [hdr]; omega)
  rw [hdr] at f1 f4
  rw [List.length_set] at f2
  have hMk : M[kk]? = some m := by rw [f3 kk (by omega), List.getElem?_set_self hlt]
  have hs : b + ((sumL (ys.drop kk) : Nat) : Int) = b + ((ys.getD kk []).length : Int) + (sumL (ys.drop (kk + 1)) : Int) := by rw [hsum]; omega
  rw [hs]
  refine ⟨M, ?_, f2, fun j hj => by rw [f3 j (by omega), List.getElem?_set_ne (by omega)], ?_⟩
  ·rw [markSSv, if_pos hlt, e1, Option.bind_some]
   simp only
   rw [if_pos e2]
   exact f1
  ·refine stp (fun k => laws_heldIntSS.l0.eq_2 ..) (ifp (by omega) (ifp (by omega) ?_))
   rw [show rd_L1 M (kk : Int) = m from getD_some hMk, up (by omega) (by omega : (kk : Int) < (M.length : Int)) (by omega)]
   refine bnd (heldN_is m b h0 (by omega) e3) (ifn (by omega) ?_)
   rw [e2]
   rw [show ((kk + 1 : Nat) : Int) = (kk : Int) + 1 by omega] at f4
   exact f4
def SSC (l : List (List Int)) : Prop := l.Pairwise fun a b => cmpL a b < 0
theorem cmp_irr (a : List Int) : ¬ cmpL a a < 0 := by rw [cmpL_self]; omega
theorem cmp_asym {a b : List Int} (h : cmpL a b < 0) : ¬ cmpL b a < 0 := fun h2 => cmp_irr a (cmpL_trans h h2)
theorem ssc_ext : ∀ {a b : List (List Int)}, SSC a → SSC b → (∀ x, x ∈ a ↔ x ∈ b) → a = b
 | [], [], _, _, _ => rfl
 | [], y :: s, _, _, h => absurd ((h y).2 List.mem_cons_self) List.not_mem_nil
 | x :: r, [], _, _, h => absurd ((h x).1 List.mem_cons_self) List.not_mem_nil
 | x :: r, y :: s, ha, hb, h => by
  obtain ⟨a1, a2⟩ := List.pairwise_cons.1 ha
  obtain ⟨b1, b2⟩ := List.pairwise_cons.1 hb
  have e : x = y := by
   rcases List.mem_cons.1 ((h x).1 List.mem_cons_self) with e | hx
   ·exact e
   ·rcases List.mem_cons.1 ((h y).2 List.mem_cons_self) with e | hy
    ·exact e.symm
    ·exact absurd (a1 y hy) (cmp_asym (b1 x hx))
  subst e
  rw [ssc_ext a2 b2 (fun z => ⟨fun hz => by
   rcases List.mem_cons.1 ((h z).1 (List.mem_cons_of_mem _ hz)) with e | q
   ·subst e; exact absurd (a1 z hz) (cmp_irr z)
   ·exact q, fun hz => by
   rcases List.mem_cons.1 ((h z).2 (List.mem_cons_of_mem _ hz)) with e | q
   ·subst e; exact absurd (b1 z hz) (cmp_irr z)
   ·exact q⟩)]
theorem insU_mem (x : List Int) : ∀ (l : List (List Int)) (z : List Int), z ∈ insU x l ↔ z = x ∨ z ∈ l
 | [], z => by simp [insU]
 | y :: r, z => by
  rw [insU]
  split
  ·rw [List.mem_cons, insU_mem x r z, List.mem_cons]
   constructor
   ·rintro (h | h | h)
    ·exact .inr (.inl h)
    ·exact .inl h
    ·exact .inr (.inr h)
   ·rintro (h | h | h)
    ·exact .inr (.inl h)
    ·exact .inl h
    ·exact .inr (.inr h)
  ·split
   ·rename_i _ e
    subst e
    simp
   ·rw [List.mem_cons]
theorem insU_ss (x : List Int) : ∀ l : List (List Int), SSC l → SSC (insU x l)
 | [], _ => List.pairwise_singleton _ _
 | y :: r, h => by
  obtain ⟨h1, h2⟩ := List.pairwise_cons.1 h
  rw [insU]
  split
  ·rename_i hlt
   refine List.pairwise_cons.2 ⟨fun z hz => ?_, insU_ss x r h2⟩
   rcases (insU_mem x r z).1 hz with e | hz
   ·subst e; exact hlt
   ·exact h1 z hz
  ·split
   ·exact h
   ·rename_i hlt hne
    have hxy : cmpL x y < 0 := by
     rcases (by omega : cmpL x y < 0 ∨ ¬ cmpL x y < 0) with q | q
     ·exact q
     ·exact absurd (cmpL_anti hlt q) hne
    refine List.pairwise_cons.2 ⟨fun z hz => ?_, h⟩
    rcases List.mem_cons.1 hz with e | hz
    ·subst e; exact hxy
    ·exact cmpL_trans hxy (h1 z hz)
def insUs : List (List Int) → List (List Int) → List (List Int)
 | [], o => o
 | x :: r, o => insUs r (insU x o)
theorem insUs_mem : ∀ (l o : List (List Int)) (z : List Int), z ∈ insUs l o ↔ z ∈ l ∨ z ∈ o
 | [], o, z => by simp [insUs]
 | x :: r, o, z => by
  rw [insUs, insUs_mem r (insU x o) z, insU_mem, List.mem_cons]
  constructor
  ·rintro (h | h | h)
   ·exact .inl (.inr h)
   ·exact .inl (.inl h)
   ·exact .inr h
  ·rintro ((h | h) | h)
   ·exact .inr (.inl h)
   ·exact .inl h
   ·exact .inr (.inr h)
theorem insUs_ss : ∀ (l o : List (List Int)), SSC o → SSC (insUs l o)
 | [], o, h => h
 | x :: r, o, h => insUs_ss r _ (insU_ss x o h)
theorem cmpG_mem : ∀ (s : List (List Int)) (p z : List Int), z ∈ p :: cmpG p s ↔ z ∈ p :: s
 | [], p, z => Iff.rfl
 | r :: t, p, z => by
  rw [cmpG]
  split
  ·rename_i e
   subst e
   rw [cmpG_mem t r z]
   simp
  ·rw [List.mem_cons, cmpG_mem t r z, List.mem_cons (a := z) (b := p)]
theorem cmpX_mem (l : List (List Int)) (z : List Int) : z ∈ cmpX l ↔ z ∈ l := by
 cases l with
 | nil => rfl
 | cons r s => exact cmpG_mem s r z
theorem cmpG_ss : ∀ (s : List (List Int)) (p : List Int), (p :: s).Pairwise (fun a b => ¬ cmpL b a < 0) → SSC (p :: cmpG p s)
 | [], p, _ => List.pairwise_singleton _ _
 | r :: t, p, h => by
  obtain ⟨h1, h2⟩ := List.pairwise_cons.1 h
  rw [cmpG]
  split
  ·rename_i e
   subst e
   exact cmpG_ss t r h2
  ·rename_i hne
   have hi := cmpG_ss t r h2
   have hpr : cmpL p r < 0 := by
    rcases (by omega : cmpL p r < 0 ∨ ¬ cmpL p r < 0) with q | q
    ·exact q
    ·exact absurd (cmpL_anti (h1 r List.mem_cons_self) q) (fun e => hne e)
   refine List.pairwise_cons.2 ⟨fun z hz => ?_, hi⟩
   rcases List.mem_cons.1 hz with e | hz
   ·subst e; exact hpr
   ·exact cmpL_trans hpr ((List.pairwise_cons.1 hi).1 z hz)
theorem cmpX_ss (l : List (List Int)) (h : l.Pairwise (fun a b => ¬ cmpL b a < 0)) : SSC (cmpX l) := by
 cases l with
 | nil => exact List.Pairwise.nil
 | cons r s => exact cmpG_ss s r h
theorem norm_is (l : List (List Int)) : insUs l [] = cmpX (sortC l) :=
 ssc_ext (insUs_ss l [] List.Pairwise.nil) (cmpX_ss _ (sortC_sorted l)) (fun z => by
  rw [insUs_mem, cmpX_mem, (sortC_perm l).mem_iff]
  simp)
theorem cmpG_len : ∀ (s : List (List Int)) (p : List Int), (cmpG p s).length ≤ s.length
 | [], p => Nat.le_refl _
 | r :: t, p => by
  rw [cmpG]
  have := cmpG_len t r
  split <;> simp <;> omega
theorem cmpX_len (l : List (List Int)) : (cmpX l).length ≤ l.length := by
 cases l with
 | nil => exact Nat.le_refl _
 | cons r s => have := cmpG_len s r; show (cmpG r s).length + 1 ≤ s.length + 1; omega
theorem clause_in {c : List Int} {a : Int} (h0 : 0 ≤ a) (h1 : a ≤ 40) (h : clauseB c a = true) : c.length ≤ 12 ∧ ∀ x ∈ c, inR x ∧ x ≠ 0 := by
 unfold clauseB at h
 rw [Bool.and_eq_true] at h
 refine ⟨of_decide_eq_true h.1, fun x hx => ?_⟩
 have h2 := h.2
 rw [Bool.not_eq_true', List.any_eq_false] at h2
 have h3 := h2 x hx
 unfold litB at h3
 simp at h3
 rw [w64 (x := -a) (by omega) (by omega)] at h3
 unfold inR
 omega
theorem cnf_in {a : Int} {l : List (List Int)} (h : cnfB a l = true) : l.length ≤ 300 ∧ ∀ c ∈ l, c.length ≤ 12 ∧ ∀ x ∈ c, inR x ∧ x ≠ 0 := by
 unfold cnfB at h
 simp only [Bool.and_eq_true, decide_eq_true_eq] at h
 obtain ⟨h0, h1, h2, h3⟩ := h
 refine ⟨h2, fun c hc => ?_⟩
 rw [Bool.not_eq_true', List.any_eq_false] at h3
 have := h3 c hc
 exact clause_in h0 h1 (by simpa using this)
theorem kept_cons (c : List Int) (l : List (List Int)) : keptC (c :: l) = if tautL (ordL c) = true then keptC l else ordL c :: keptC l := by
 unfold keptC
 rw [List.map_cons]
 by_cases h : tautL (ordL c) = true
 ·simp [h]
 ·simp [h]
theorem nrm_is : ∀ (l o : List (List Int)), (∀ c ∈ l, ∀ x ∈ c, inR x ∧ x ≠ 0) → nrmS l o = insUs (keptC l) o
 | [], o, _ => rfl
 | c :: r, o, h => by
  rw [nrmS, kept_cons, ord_is, ← taut_is (ord_ss c) (fun x hx => h c List.mem_cons_self x ((ord_mem c x).1 hx))]
  split
  ·exact nrm_is r o (fun c hc => h c (List.mem_cons_of_mem _ hc))
  ·rw [insUs]
   exact nrm_is r _ (fun c hc => h c (List.mem_cons_of_mem _ hc))
theorem kept_in (l : List (List Int)) {c : List Int} (hc : c ∈ keptC l) : ∃ d ∈ l, c = ordL d := by
 unfold keptC at hc
 obtain ⟨d, hd, e⟩ := List.mem_map.1 (List.mem_filter.1 hc).1
 exact ⟨d, hd, e.symm⟩
theorem kept_len (l : List (List Int)) : (keptC l).length ≤ l.length := by
 unfold keptC
 refine Nat.le_trans (List.length_filter_le _ _) ?_
 rw [List.length_map]
 exact Nat.le_refl _
def ans (a : Int) (l : List (List Int)) : Int × List (List Int) × Int := if cnfB a l = true then (a, cmpX (sortC (keptC l)), 0) else (0, [], 1)
theorem both (a : Int) (l : List (List Int)) (h : RowsOK l) : Ev (fun k => spec_NormalCnf.f k a l) (ans a l) ∧ impl_NormalCnf.f a l = some (ans a l) ∧ RowsOK (ans a l).2.1 ∧ (ans a l).2.1.length ≤ 300 ∧ sumL (ans a l).2.1 ≤ 12 * (ans a l).2.1.length := by
 have hsp := specCnf_is a l h
 unfold ans impl_NormalCnf.f
 by_cases hb : cnfB a l = true
 ·rw [if_pos hb, if_pos hb]
  obtain ⟨hl, hc⟩ := cnf_in hb
  have hlen : (cmpX (sortC (keptC l))).length ≤ 300 := by
   have h1 := cmpX_len (sortC (keptC l))
   have h2 := (sortC_perm (keptC l)).length_eq
   have h3 := kept_len l
   omega
  have hmem : ∀ c ∈ cmpX (sortC (keptC l)), c.length ≤ 12 ∧ ∀ x ∈ c, inR x := fun c hcm => by
   obtain ⟨d, hd, rfl⟩ := kept_in l ((sortC_perm _).mem_iff.1 ((cmpX_mem _ c).1 hcm))
   have h1 := hc d hd
   exact ⟨Nat.le_trans (ord_len d) h1.1, fun x hx => (h1.2 x ((ord_mem d x).1 hx)).1⟩
  refine ⟨?_, ?_, ⟨by show (cmpX (sortC (keptC l))).length * 24 ≤ _; omega, fun c hcm => ⟨by have := (hmem c hcm).1; omega, fun x hx => ?_⟩⟩, hlen, ?_⟩
  ·refine evc (fun k => spec_NormalCnf.f.eq_1 ..) (bnd hsp (ifp hb (ifp ⟨by omega, fun c hcm => ⟨by have := (hc c hcm).1; omega, fun x hx => ((hc c hcm).2 x hx).1⟩⟩ ?_)))
   rw [nrm_is l [] (fun c hcm => (hc c hcm).2), norm_is]
   exact sm _
  ·rw [if_pos]
   refine ⟨by omega, List.all_eq_true.2 (fun c hcm => ?_), fun c hcm x hx => ?_⟩
   ·unfold okO impl_inOrder.f
    rw [if_pos ⟨by have := (hc c hcm).1; omega, fun x hx => ((hc c hcm).2 x hx).1⟩]
    rfl
   ·obtain ⟨d, hd, rfl⟩ := kept_in l hcm
    exact ((hc d hd).2 x ((ord_mem d x).1 hx)).1
  ·have := (hmem c hcm).2 x hx
   unfold inR at this
   unfold Reads.WFI
   omega
  ·have key : ∀ (M : List (List Int)), (∀ c ∈ M, c.length ≤ 12) → sumL M ≤ 12 * M.length := by
    intro M
    induction M with
    | nil => intro _; exact Nat.zero_le _
    | cons c r ih =>
     intro hM
     have h1 := ih (fun c hc => hM c (List.mem_cons_of_mem _ hc))
     have h2 := hM c List.mem_cons_self
     unfold sumL at h1 ⊢
     simp only [List.map_cons, List.sum_cons, List.length_cons]
     omega
   exact key _ (fun c hcm => (hmem c hcm).1)
 ·rw [if_neg hb, if_neg hb]
  exact ⟨evc (fun k => spec_NormalCnf.f.eq_1 ..) (bnd hsp (ifn hb (sm _))), rfl, ⟨by decide, fun c hc => absurd hc List.not_mem_nil⟩, by decide, by decide⟩
theorem FnExactNormalCnf : laws_FnExactNormalCnf.Pure := by
 intro a l ha hl
 refine Ev.rounds ?_
 refine evc (fun k => laws_FnExactNormalCnf.f.eq_1 ..) ?_
 obtain ⟨t, ht, hsz, hsum⟩ := szCnf_sum a l hl 1048576 (by decide) (by decide)
 refine bnd hsz ?_
 by_cases h : t < 0
 ·exact ifp h (sm _)
 have hsl := hsum (by omega)
 have hll := rows_len hl
 obtain ⟨hsp, him, hok, hlen, hs12⟩ := both a l hl
 obtain ⟨M, f1, f2, _, f4⟩ := rowsHeld (ans a l).2.1.length 0 (ans a l).2.1 1 (by omega) (by omega) (by decide) (by rw [List.drop_zero]; omega)
 obtain ⟨M2, g1, g2, _, g4⟩ := rowsHeld l.length 0 l 1 (by omega) (by omega) (by decide) (by rw [List.drop_zero]; omega)
 rw [List.drop_zero] at f1 f4 g1
 have hheld : Ev (fun k => laws_heldCnf.f k (ans a l).1 M 1) (1 + (sumL (ans a l).2.1 : Int)) := evc (fun k => laws_heldCnf.f.eq_1 ..) (bnd (evc (fun k => laws_heldIntSS.f.eq_1 ..) f4) (ifn (by omega) (sm _)))
 refine ifn h (bnd (toCnf_is a l hl) (bnd hsp (bnd0 him (bnd (eqCnf_self _ _ hok) (bnd (eqCnf_self a l hl) (bnd0 g1 (bnd0 f1 (bnd hheld ?_))))))))
 exact ifp ⟨rfl, rfl, rfl, rfl, rfl, by omega, by omega⟩ (sm _)
end Go.Proofs.Ytelfahcjeldliaa.Pure
end
section
set_option linter.unusedVariables false
set_option linter.unusedSimpArgs false
namespace Go.Proofs.Ytelfahcjeldliaa.fnExactNormalCnf
open Go.ChangeShapes Go.WideShapes Go.ChangeAt Go.RowKit Go.Proofs.Ytelfahcjeldliaa.PFnExactNormalCnf Go.Proofs.YtelfahcjeldliaaW.PrintWords
open Go.ChangeMaps (open_string shut_string)
theorem own : ownKnob Try.prog.godebug = none := by kernel_rfl
theorem laidOut : laidOutB Try.prog = true := by kernel_rfl
set_option maxRecDepth 100000 in
theorem lifted (os : Os) (started : os.Started) (H : Type) (enc : TypeId × Value → H) :
  ReturnsInHanded {} Try.checked os 11 .any (Rows.fnExactNormalCnfSpec.pre6 enc Try.prog Try.f11 Rows.fnExactNormalCnfRow.domain false) (Rows.fnExactNormalCnfSpec.post enc Try.prog Try.f11 false true false false) := by
 refine returnsInHanded_of_change_sized (C := Try.checked) own started (by kernel_rfl) Try.func11
  (ChangeSpec.witness6 (enc := enc) (C := Try.checked) false ⟨#[], #[.agg #[.int .i64 0, .slice none 0 0]], []⟩ 8 (by kernel_rfl) (by kernel_rfl) (by kernel_rfl) (by kernel_rfl)) ?_
 intro W base args ds gs before hval0 hW hcnd hsz0 _
 have hsz : (DataW.weightsEach Try.prog (Try.f11.params.toList ++ Rows.fnExactNormalCnfSpec.plain.varTypes Try.prog) (ds ++ gs)).all (· ≤ reachBytes) = true := hsz0
 have hval : ∀ (j : Nat) t v, Try.f11.params[j]? = some t → args[j]? = some v → Value.okWide Try.prog W .any base t v := hval0
 have hW' := hW
 obtain ⟨p, q, hA0, hV, rfl, hfz, hnd⟩ := hW
 have hA : DataW.TrodAll enc Try.prog W 0 (fun _ => true) true Try.f11.params.toList args.toList ds p := hA0
 rw [Try.params11] at hA hval hsz
 obtain ⟨v0, vs0, d0, ds0, p0, q0, hargs, rfl, rfl, h0, r0⟩ := trodAll_cons hA
 obtain ⟨rfl, rfl, rfl⟩ := trodAll_nil r0
 obtain rfl : args = #[v0] := by cases args; simp_all
 obtain ⟨rfl, rfl⟩ := trodVars_none hV
 obtain ⟨cs0, rfl, z0⟩ := okWide_struct Try.underlying24 (hval 0 24 v0 rfl rfl)
 have k0 := h0
 have lt0 : ∀ x ∈ p0, x.block < W.heap.size := by obtain ⟨m, hm⟩ := k0; exact DataW.trod_lt m _ _ _ hm
 obtain ⟨x0, K0, w0⟩ := Reads.arg (j := 0) (t := 24) (k := Kd.iso (Kd.pair (Kd.int .i64) (Kd.slice 37 (Kd.slice 3 (Kd.int .i64)))) (fun x : (Int) × (List (List Int)) => x)) (wf := fun p : (Int) × (List (List Int)) => Reads.WFI p.1 ∧ ((Reads.WFL 24 (Reads.WFL 8 Reads.WFI)) p.2)) (fun _ => Reads.struct (wf := fun p : (Int) × (List (List Int)) => Reads.WFI p.1 ∧ ((Reads.WFL 24 (Reads.WFL 8 Reads.WFI)) p.2)) (fun x : (Int) × (List (List Int)) => x) (fun p => p) (fun _ => rfl) Try.underlying24 (by kernel_rfl) (fun m _ => (Reads.more rfl (by kernel_rfl) ((Reads.intR Try.underlying3) m) (Reads.last rfl (by kernel_rfl) ((Reads.sliceR (t := 22) (e := 37) Try.underlying22 (by kernel_rfl) (by kernel_rfl) (Reads.sliceR (t := 37) (e := 3) Try.underlying37 (by kernel_rfl) (by kernel_rfl) (Reads.intR Try.underlying3))) m))))) hsz rfl rfl h0
 obtain ⟨_, _, e0, rfl, ⟨A0_1, c0_1, rfl, hc0_1, hr0_1⟩⟩ := K0
 obtain rfl : cs0 = #[.int .i64 x0.1, .slice A0_1 x0.2.length c0_1] := by
  apply Array.toList_inj.1
  exact e0
 clear hA0 hval0 hsz0 hsz
 obtain ⟨k, h⟩ := Pure.FnExactNormalCnf x0.1 x0.2 (w0.1) (w0.2)
 refine (laws_FnExactNormalCnf.calls k x0.1 _ _ x0.2 true W hr0_1 hc0_1 h).mono ?_
 rintro e W' ⟨rfl, bel⟩
 exact ⟨_, rfl, _, _, _, [], _, [], hW', trodAll_mk1 (shut_bool Try.underlying4 _), (trodAll_cons_mk (Below.trod laidOut (by kernel_rfl) (of_decide_eq_true (by kernel_rfl)) k0 bel lt0) trodAll_mk0), rfl, bel.frame _, fun h => by cases h⟩
theorem over : Rows.fnExactNormalCnfRow.holds Try.pinned (OpenSpec.ofChange Rows.fnExactNormalCnfSpec) :=
 OpenClaim.holds_of_wide 11 Try.f11 rfl rfl rfl rfl rfl rfl rfl ⟨rfl, rfl, rfl, rfl, rfl⟩ rfl rfl rfl rfl rfl (by kernel_rfl) Try.func11 (by kernel_rfl)
  (of_decide_eq_true (by kernel_rfl)) (by unfold Func.isWrapper; first | (rw [if_pos (by decide +kernel)]; kernel_rfl) | (rw [if_neg (by decide +kernel)]; exact ⟨rfl, rfl⟩))
  (fun os started H enc _ => lifted os started H enc)
theorem proved : Rows.FnExactNormalCnfSaid := over
end Go.Proofs.Ytelfahcjeldliaa.fnExactNormalCnf
namespace Go.Proofs.Ytelfahcjeldliaa
theorem fnExactNormalCnf_holds : Rows.FnExactNormalCnfSaid := fnExactNormalCnf.proved
end Go.Proofs.Ytelfahcjeldliaa
end
#print axioms Go.Proofs.Ytelfahcjeldliaa.fnExactNormalCnf_holds
