/- FnExactCandidates: for every input the law returns true. The texts that this program's session printed and proved for it, those that the proof uses, laid together. Conditions: the form's own reach alone. -/
import Derived.Test.YtgibacfgjmdjdaaQFnExactCandidates4
import Derived.IntWalk
import Derived.Shelf.Abstract
import Derived.Deep.Slices
import Derived.WalkSpells
import Derived.ChangeArms
import Derived.SizedLaws
section
namespace Go.Proofs.Ytgibacfgjmdjdaa.PFnExactIsStable
open Go.RowKit Go.Proofs.YtgibacfgjmdjdaaW.PrintWords Go.Proofs.YtgibacfgjmdjdaaW.PrintLast Go.Proofs.YtgibacfgjmdjdaaW.PrintMore
attribute [local go_sem] max2_int min2_int max_two min_two max_three min_three max_four min_four   -- for this text's walks alone
set_option linter.unusedVariables false
set_option maxHeartbeats 8000000
set_option maxRecDepth 100000
set_option linter.unusedSimpArgs false
def laws_markFilterS.l0 : Nat → List (S97) → Int → Int → Option (Int × (List (S97)))
 | 0, _, _, _ => none
 | k + 1, x0, x1, x5 => if x5 < (x0.length : Int) then (if 0 ≤ x5 then ((some (x0.set (x5 : Int).toNat (⟨x1, (rd_T97 x0 x5).f1, (rd_T97 x0 x5).f2, (rd_T97 x0 x5).f3⟩ : S97) : List (S97))).bind fun y221 => ((some (y221.set (x5 : Int).toNat (⟨(rd_T97 y221 x5).f0, wrap64 (x1 + 1), (rd_T97 y221 x5).f2, (rd_T97 y221 x5).f3⟩ : S97) : List (S97))).bind fun y222 => ((some (y222.set (x5 : Int).toNat (⟨(rd_T97 y222 x5).f0, (rd_T97 y222 x5).f1, wrap64 ((wrap64 (x1 + 1)) + 1), (rd_T97 y222 x5).f3⟩ : S97) : List (S97))).bind fun y223 => (laws_markFilterS.l0 k (y223.set (x5 : Int).toNat (⟨(rd_T97 y223 x5).f0, (rd_T97 y223 x5).f1, (rd_T97 y223 x5).f2, wrap64 ((wrap64 ((wrap64 (x1 + 1)) + 1)) + 1)⟩ : S97)) (wrap64 ((wrap64 ((wrap64 ((wrap64 (x1 + 1)) + 1)) + 1)) + 1)) (wrap64 (x5 + 1)))))) else (none)) else (some (x1, x0))
def laws_markFilterS.f (k : Nat) (l0 : List (S97)) (a1 : Int) : Option (Int × (List (S97))) := laws_markFilterS.l0 k l0 a1 0
theorem laws_markFilterS.calls (k : Nat) (P0_ : Nat → Prop) (u9000_ : Value) (l0 : List (S97)) (a1 : Int) (r1 : Int) (r2 : List (S97)) (w0 w : World) (hB : Below w0.heap.size w0 w) (ho0 : Kd.R k97 97 w w0.heap.size P0_ u9000_ l0) (h : laws_markFilterS.f k l0 a1 = some (r1, r2)) :
  Calls Try.prog 57 #[u9000_, .int .i64 a1] w fun e w' => e = .returned (.int .i64 r1) ∧ Kd.R k97 97 w' w0.heap.size (fun k_ => (P0_ k_ ∨ w.heap.size ≤ k_)) u9000_ r2 ∧ Below w0.heap.size w0 w' ∧ Kept w w' (fun k_ => P0_ k_) := by
 have HO0 := aM (show Kd.R k97 97 w w0.heap.size (fun k_ => (P0_ k_ ∨ w.heap.size ≤ k_)) u9000_ l0 from Kd.R_mono ho0 (fun k_ hk => (.inl hk)))
 have HK := aM (Kept.refl w (fun k_ => P0_ k_))
 have HW0 := aM hB.size
 have HB := aM hB
 clear hB
 have H : (laws_markFilterS.l0 k l0 a1 0) = some (r1, r2) := h
 clear h
 have H' := aM H
 clear H
 go_enter Try.func57, Try.ntmps57
 go_wp2
 go_loopg [1, 5] k (fun kq v1 v5 w' => ∃ (x0_1 : List (S97)) (x1_1 : Int) (x5_1 : Int), v1 = .int .i64 x1_1 ∧ v5 = .int .i64 x5_1 ∧ Aside0 (laws_markFilterS.l0 kq x0_1 x1_1 x5_1 = some (r1, r2)) ∧ Aside0 (kq ≤ k) ∧ Aside0 (Kd.R k97 97 w' w0.heap.size (fun k_ => (P0_ k_ ∨ w.heap.size ≤ k_)) u9000_ x0_1) ∧ Aside0 (Kept w w' (fun k_ => P0_ k_)) ∧ Aside0 (Below w0.heap.size w0 w'))
 case atStart => exact ⟨(l0), (a1), (0), (by rfl), (by rfl), H', ⟨Nat.le_refl _⟩, ⟨by exact HO0.out⟩, ⟨by repeat ((with_reducible exact HK.out))⟩, ⟨by repeat ((with_reducible exact HB.out))⟩⟩
 clear H'
 obtain ⟨x0_1, x1_1, x5_1, rfl, rfl, HA, HK1, HO_0, HK, HB⟩ := hrel
 cases gk with
 | zero => exact absurd HA.out (by simp [laws_markFilterS.l0])
 | succ k1 =>
  have H := HA.out
  clear HA
  simp only [laws_markFilterS.l0] at H
  by_cases c3 : x5_1 < (x0_1.length : Int)
  rotate_left
  ·rw [if_neg c3] at H
   have c3b0 : decide (x5_1 < (x0_1.length : Int)) = false := decide_eq_false c3
   clear c3
   simp only [Option.some.injEq, Prod.mk.injEq] at H
   obtain ⟨rfl, rfl⟩ := H
   obtain ⟨Ao18, co18, eo18⟩ := Kd.R_slice HO_0.out
   subst eo18
   go_wp2
   go_ret
   exact ⟨by rfl, by exact HO_0.out, by repeat ((with_reducible exact HB.out)), by repeat ((with_reducible exact HK.out))⟩
  rw [if_pos c3] at H
  have c3b0 : decide (x5_1 < (x0_1.length : Int)) = true := decide_eq_true c3
  clear c3
  by_cases c4 : 0 ≤ x5_1
  rotate_left
  ·rw [if_neg c4] at H
   exact absurd H (by simp)
  rw [if_pos c4] at H
  have c4b0 : decide (0 ≤ x5_1) = true := decide_eq_true c4
  clear c4
  obtain ⟨y221, hy221⟩ : ∃ y_ : List (S97), y_ = (x0_1.set (x5_1 : Int).toNat (⟨x1_1, (rd_T97 x0_1 x5_1).f1, (rd_T97 x0_1 x5_1).f2, (rd_T97 x0_1 x5_1).f3⟩ : S97)) := ⟨_, rfl⟩
  replace H : ((some (y221.set (x5_1 : Int).toNat (⟨(rd_T97 y221 x5_1).f0, wrap64 (x1_1 + 1), (rd_T97 y221 x5_1).f2, (rd_T97 y221 x5_1).f3⟩ : S97) : List (S97))).bind fun y222 => ((some (y222.set (x5_1 : Int).toNat (⟨(rd_T97 y222 x5_1).f0, (rd_T97 y222 x5_1).f1, wrap64 ((wrap64 (x1_1 + 1)) + 1), (rd_T97 y222 x5_1).f3⟩ : S97) : List (S97))).bind fun y223 => (laws_markFilterS.l0 k1 (y223.set (x5_1 : Int).toNat (⟨(rd_T97 y223 x5_1).f0, (rd_T97 y223 x5_1).f1, (rd_T97 y223 x5_1).f2, wrap64 ((wrap64 ((wrap64 (x1_1 + 1)) + 1)) + 1)⟩ : S97)) (wrap64 ((wrap64 ((wrap64 ((wrap64 (x1_1 + 1)) + 1)) + 1)) + 1)) (wrap64 (x5_1 + 1))))) = some (r1, r2) := by (have H2_ := (Option.bind_some _ _).symm.trans H; rw [hy221]; with_reducible exact H2_)
  have Ny221 := aM hy221
  clear hy221
  obtain ⟨y222, hy222⟩ : ∃ y_ : List (S97), y_ = (y221.set (x5_1 : Int).toNat (⟨(rd_T97 y221 x5_1).f0, wrap64 (x1_1 + 1), (rd_T97 y221 x5_1).f2, (rd_T97 y221 x5_1).f3⟩ : S97)) := ⟨_, rfl⟩
  replace H : ((some (y222.set (x5_1 : Int).toNat (⟨(rd_T97 y222 x5_1).f0, (rd_T97 y222 x5_1).f1, wrap64 ((wrap64 (x1_1 + 1)) + 1), (rd_T97 y222 x5_1).f3⟩ : S97) : List (S97))).bind fun y223 => (laws_markFilterS.l0 k1 (y223.set (x5_1 : Int).toNat (⟨(rd_T97 y223 x5_1).f0, (rd_T97 y223 x5_1).f1, (rd_T97 y223 x5_1).f2, wrap64 ((wrap64 ((wrap64 (x1_1 + 1)) + 1)) + 1)⟩ : S97)) (wrap64 ((wrap64 ((wrap64 ((wrap64 (x1_1 + 1)) + 1)) + 1)) + 1)) (wrap64 (x5_1 + 1)))) = some (r1, r2) := by (have H2_ := (Option.bind_some _ _).symm.trans H; rw [hy222]; with_reducible exact H2_)
  have Ny222 := aM hy222
  clear hy222
  obtain ⟨y223, hy223⟩ : ∃ y_ : List (S97), y_ = (y222.set (x5_1 : Int).toNat (⟨(rd_T97 y222 x5_1).f0, (rd_T97 y222 x5_1).f1, wrap64 ((wrap64 (x1_1 + 1)) + 1), (rd_T97 y222 x5_1).f3⟩ : S97)) := ⟨_, rfl⟩
  replace H : (laws_markFilterS.l0 k1 (y223.set (x5_1 : Int).toNat (⟨(rd_T97 y223 x5_1).f0, (rd_T97 y223 x5_1).f1, (rd_T97 y223 x5_1).f2, wrap64 ((wrap64 ((wrap64 (x1_1 + 1)) + 1)) + 1)⟩ : S97)) (wrap64 ((wrap64 ((wrap64 ((wrap64 (x1_1 + 1)) + 1)) + 1)) + 1)) (wrap64 (x5_1 + 1))) = some (r1, r2) := by (have H2_ := (Option.bind_some _ _).symm.trans H; rw [hy223]; with_reducible exact H2_)
  have Ny223 := aM hy223
  clear hy223
  obtain ⟨y224, hy224⟩ : ∃ y_ : List (S97), y_ = (y223.set (x5_1 : Int).toNat (⟨(rd_T97 y223 x5_1).f0, (rd_T97 y223 x5_1).f1, (rd_T97 y223 x5_1).f2, wrap64 ((wrap64 ((wrap64 (x1_1 + 1)) + 1)) + 1)⟩ : S97)) := ⟨_, rfl⟩
  replace H : (laws_markFilterS.l0 k1 y224 (wrap64 ((wrap64 ((wrap64 ((wrap64 (x1_1 + 1)) + 1)) + 1)) + 1)) (wrap64 (x5_1 + 1))) = some (r1, r2) := by (rw [hy224]; with_reducible exact H)
  have Ny224 := aM hy224
  clear hy224
  have H' := aM H
  clear H
  obtain ⟨Ao9, co9, eo9⟩ := Kd.R_slice HO_0.out
  subst eo9
  have p5 : 0 ≤ (x5_1 : Int) := oD ‹_›
  have q5 : (x5_1 : Int) < ((x0_1.length : Int) : Int) := oD ‹_›
  obtain ⟨go5, co5, eo5, gb5, gl5, cl5, HG5⟩ := Kd.R_form HO_0.out (by omega)
  (cases eo5)
  have GB5 := aM gb5
  have GG5 := aM HG5
  clear gb5 gl5 HG5
  have HMgo5 := aM (show (P0_ go5 ∨ w.heap.size ≤ go5) from (HO_0.out.1 _ rfl))
  obtain ⟨ce5, hcl5, hM5, hcc5, hfr5⟩ := Kd.R_elem HO_0.out z97 (x5_1 : Int) p5 q5
  obtain rfl := k97_openM hM5
  have hx5_0 : wr.cell? ⟨go5, (x5_1 : Int).toNat * 4, none⟩ = some (.int .i64 ((rd_T97 x0_1 x5_1).f0)) := hcc5 0 _ rfl
  have hx5_1 : wr.cell? ⟨go5, (x5_1 : Int).toNat * 4 + 1, none⟩ = some (.int .i64 ((rd_T97 x0_1 x5_1).f1)) := hcc5 1 _ rfl
  have hx5_2 : wr.cell? ⟨go5, (x5_1 : Int).toNat * 4 + 2, none⟩ = some (.int .i64 ((rd_T97 x0_1 x5_1).f2)) := hcc5 2 _ rfl
  have hx5_3 : wr.cell? ⟨go5, (x5_1 : Int).toNat * 4 + 3, none⟩ = some (.int .i64 ((rd_T97 x0_1 x5_1).f3)) := hcc5 3 _ rfl
  have hf5_0 : wr.frozen? ⟨go5, (x5_1 : Int).toNat * 4, none⟩ = false := hfr5 0
  have hf5_1 : wr.frozen? ⟨go5, (x5_1 : Int).toNat * 4 + 1, none⟩ = false := hfr5 1
  have hf5_2 : wr.frozen? ⟨go5, (x5_1 : Int).toNat * 4 + 2, none⟩ = false := hfr5 2
  have hf5_3 : wr.frozen? ⟨go5, (x5_1 : Int).toNat * 4 + 3, none⟩ = false := hfr5 3
  clear hcl5 hcc5 hfr5; (try clear hM5)
  replace p5 := eq_true p5
  replace q5 := eq_true q5
  have HX10 := aM (show Kd.R k97 97 wr w0.heap.size (fun k_ => (P0_ k_ ∨ w.heap.size ≤ k_)) (.slice (some ⟨go5, 0, none⟩) x0_1.length co9) x0_1 from HO_0.out)
  obtain ⟨ce10, hcl10, hM10, hcc10, hfr10⟩ := Kd.R_elem HX10.out z97 (x5_1 : Int) (oD ‹_›) (by have h_ : (x5_1 : Int) < ((x0_1.length : Int) : Int) := oD ‹_›; exact h_)
  obtain rfl := k97_openM hM10
  have HP10 := Kd.R_seg HX10.out (x5_1 : Int) (oD ‹_›) (by have h_ : (x5_1 : Int) < ((x0_1.length : Int) : Int) := oD ‹_›; exact h_) (seg := [.int .i64 x1_1]) (j := 0) hcl10 hcc10 (show 1 ≤ 4 from by decide) (x' := (⟨x1_1, (rd_T97 x0_1 x5_1).f1, (rd_T97 x0_1 x5_1).f2, (rd_T97 x0_1 x5_1).f3⟩ : S97)) (k97_mkM _ _ _ (⟨x1_1, (rd_T97 x0_1 x5_1).f1, (rd_T97 x0_1 x5_1).f2, (rd_T97 x0_1 x5_1).f3⟩ : S97) ) (fun _ hk => hk)
  have hx10_0 := hcc10 0 _ rfl
  (try simp only [show (k97).sz = 4 from rfl, Nat.mul_one, Nat.add_zero] at hx10_0)
  have hf10_0 := hfr10 0
  (try simp only [show (k97).sz = 4 from rfl, Nat.mul_one, Nat.add_zero] at hf10_0)
  clear hcl10 hcc10 hfr10; (try clear hM10)
  go_wp2_with (first | ((with_reducible refine gate_store (t := 3) (p := 16) rfl ?_); refine store_event (t := 3) (p := 16) (v := ?vo_w11) (w1 := (wr.setCell ⟨go5, (x5_1 : Int).toNat * 4, none⟩ (.int .i64 x1_1))) ?hg ?ho ?hn ?hr ?_; (case ho => rfl); (case hg => rfl); (case hn => rfl); (case hr => (go_simp; done)); intro w11 hw; have hg : wr.grownBy w11 (some go5) := (by rw [hw]; exact HP10.2); have hp_ : Kd.R k97 97 w11 w0.heap.size (fun k_ => (P0_ k_ ∨ w.heap.size ≤ k_)) (.slice (some ⟨go5, 0, none⟩) x0_1.length co9) y221 := (by rw [hw, Ny221.out]; exact HP10.1); clear HP10; replace HB := aM ((by rw [hw]; exact below_set (HB.out) GB5.out : Below w0.heap.size w0 w11)); replace HK := aM (Kept.of_grown (S := (fun k_ => P0_ k_)) hg HK.out (fun k_ e_ => (HO_0.out.1 k_ e_))); replace HO_0 := aM (hp_); clear hg hw hp_; have p6 : 0 ≤ (x5_1 : Int) := oD ‹_›; have q6 : (x5_1 : Int) < ((x0_1.length : Int) : Int) := oD ‹_›; obtain ⟨ce6, hcl6, hM6, hcc6, hfr6⟩ := Kd.R_elem HO_0.out z97 (x5_1 : Int) p6 q6; obtain rfl := k97_openM hM6; have hx6_0 : w11.cell? ⟨go5, (x5_1 : Int).toNat * 4, none⟩ = some (.int .i64 ((rd_T97 y221 x5_1).f0)) := hcc6 0 _ rfl; have hx6_1 : w11.cell? ⟨go5, (x5_1 : Int).toNat * 4 + 1, none⟩ = some (.int .i64 ((rd_T97 y221 x5_1).f1)) := hcc6 1 _ rfl; have hx6_2 : w11.cell? ⟨go5, (x5_1 : Int).toNat * 4 + 2, none⟩ = some (.int .i64 ((rd_T97 y221 x5_1).f2)) := hcc6 2 _ rfl; have hx6_3 : w11.cell? ⟨go5, (x5_1 : Int).toNat * 4 + 3, none⟩ = some (.int .i64 ((rd_T97 y221 x5_1).f3)) := hcc6 3 _ rfl; have hf6_0 : w11.frozen? ⟨go5, (x5_1 : Int).toNat * 4, none⟩ = false := hfr6 0; have hf6_1 : w11.frozen? ⟨go5, (x5_1 : Int).toNat * 4 + 1, none⟩ = false := hfr6 1; have hf6_2 : w11.frozen? ⟨go5, (x5_1 : Int).toNat * 4 + 2, none⟩ = false := hfr6 2; have hf6_3 : w11.frozen? ⟨go5, (x5_1 : Int).toNat * 4 + 3, none⟩ = false := hfr6 3; clear hcl6 hcc6 hfr6; (try clear hM6); replace p6 := eq_true p6; replace q6 := eq_true q6; have HX12 := aM (show Kd.R k97 97 w11 w0.heap.size (fun k_ => (P0_ k_ ∨ w.heap.size ≤ k_)) (.slice (some ⟨go5, 0, none⟩) x0_1.length co9) y221 from HO_0.out); obtain ⟨ce12, hcl12, hM12, hcc12, hfr12⟩ := Kd.R_elem HX12.out z97 (x5_1 : Int) (oD ‹_›) (by have h_ : (x5_1 : Int) < ((x0_1.length : Int) : Int) := oD ‹_›; exact h_); obtain rfl := k97_openM hM12; have HP12 := Kd.R_seg HX12.out (x5_1 : Int) (oD ‹_›) (by have h_ : (x5_1 : Int) < ((x0_1.length : Int) : Int) := oD ‹_›; exact h_) (seg := [.int .i64 (wrap64 (x1_1 + 1))]) (j := 1) hcl12 hcc12 (show 2 ≤ 4 from by decide) (x' := (⟨(rd_T97 y221 x5_1).f0, wrap64 (x1_1 + 1), (rd_T97 y221 x5_1).f2, (rd_T97 y221 x5_1).f3⟩ : S97)) (k97_mkM _ _ _ (⟨(rd_T97 y221 x5_1).f0, wrap64 (x1_1 + 1), (rd_T97 y221 x5_1).f2, (rd_T97 y221 x5_1).f3⟩ : S97) ) (fun _ hk => hk); have hx12_1 := hcc12 1 _ rfl; (try simp only [show (k97).sz = 4 from rfl, Nat.mul_one, Nat.add_zero] at hx12_1); have hf12_1 := hfr12 1; (try simp only [show (k97).sz = 4 from rfl, Nat.mul_one, Nat.add_zero] at hf12_1); clear hcl12 hcc12 hfr12; (try clear hM12)) | ((with_reducible refine gate_store (t := 3) (p := 23) rfl ?_); refine store_event (t := 3) (p := 23) (v := ?vo_w13) (w1 := (w11.setCell ⟨go5, (x5_1 : Int).toNat * 4 + 1, none⟩ (.int .i64 (wrap64 (x1_1 + 1))))) ?hg ?ho ?hn ?hr ?_; (case ho => rfl); (case hg => rfl); (case hn => rfl); (case hr => (go_simp; done)); intro w13 hw; have hg : w11.grownBy w13 (some go5) := (by rw [hw]; exact HP12.2); have hp_ : Kd.R k97 97 w13 w0.heap.size (fun k_ => (P0_ k_ ∨ w.heap.size ≤ k_)) (.slice (some ⟨go5, 0, none⟩) x0_1.length co9) y222 := (by rw [hw, Ny222.out]; exact HP12.1); clear HP12; replace HB := aM ((by rw [hw]; exact below_set (HB.out) GB5.out : Below w0.heap.size w0 w13)); replace HK := aM (Kept.of_grown (S := (fun k_ => P0_ k_)) hg HK.out (fun k_ e_ => (HO_0.out.1 k_ e_))); replace HO_0 := aM (hp_); clear hg hw hp_; have p7 : 0 ≤ (x5_1 : Int) := oD ‹_›; have q7 : (x5_1 : Int) < ((x0_1.length : Int) : Int) := oD ‹_›; obtain ⟨ce7, hcl7, hM7, hcc7, hfr7⟩ := Kd.R_elem HO_0.out z97 (x5_1 : Int) p7 q7; obtain rfl := k97_openM hM7; have hx7_0 : w13.cell? ⟨go5, (x5_1 : Int).toNat * 4, none⟩ = some (.int .i64 ((rd_T97 y222 x5_1).f0)) := hcc7 0 _ rfl; have hx7_1 : w13.cell? ⟨go5, (x5_1 : Int).toNat * 4 + 1, none⟩ = some (.int .i64 ((rd_T97 y222 x5_1).f1)) := hcc7 1 _ rfl; have hx7_2 : w13.cell? ⟨go5, (x5_1 : Int).toNat * 4 + 2, none⟩ = some (.int .i64 ((rd_T97 y222 x5_1).f2)) := hcc7 2 _ rfl; have hx7_3 : w13.cell? ⟨go5, (x5_1 : Int).toNat * 4 + 3, none⟩ = some (.int .i64 ((rd_T97 y222 x5_1).f3)) := hcc7 3 _ rfl; have hf7_0 : w13.frozen? ⟨go5, (x5_1 : Int).toNat * 4, none⟩ = false := hfr7 0; have hf7_1 : w13.frozen? ⟨go5, (x5_1 : Int).toNat * 4 + 1, none⟩ = false := hfr7 1; have hf7_2 : w13.frozen? ⟨go5, (x5_1 : Int).toNat * 4 + 2, none⟩ = false := hfr7 2; have hf7_3 : w13.frozen? ⟨go5, (x5_1 : Int).toNat * 4 + 3, none⟩ = false := hfr7 3; clear hcl7 hcc7 hfr7; (try clear hM7); replace p7 := eq_true p7; replace q7 := eq_true q7; have HX14 := aM (show Kd.R k97 97 w13 w0.heap.size (fun k_ => (P0_ k_ ∨ w.heap.size ≤ k_)) (.slice (some ⟨go5, 0, none⟩) x0_1.length co9) y222 from HO_0.out); obtain ⟨ce14, hcl14, hM14, hcc14, hfr14⟩ := Kd.R_elem HX14.out z97 (x5_1 : Int) (oD ‹_›) (by have h_ : (x5_1 : Int) < ((x0_1.length : Int) : Int) := oD ‹_›; exact h_); obtain rfl := k97_openM hM14; have HP14 := Kd.R_seg HX14.out (x5_1 : Int) (oD ‹_›) (by have h_ : (x5_1 : Int) < ((x0_1.length : Int) : Int) := oD ‹_›; exact h_) (seg := [.int .i64 (wrap64 ((wrap64 (x1_1 + 1)) + 1))]) (j := 2) hcl14 hcc14 (show 3 ≤ 4 from by decide) (x' := (⟨(rd_T97 y222 x5_1).f0, (rd_T97 y222 x5_1).f1, wrap64 ((wrap64 (x1_1 + 1)) + 1), (rd_T97 y222 x5_1).f3⟩ : S97)) (k97_mkM _ _ _ (⟨(rd_T97 y222 x5_1).f0, (rd_T97 y222 x5_1).f1, wrap64 ((wrap64 (x1_1 + 1)) + 1), (rd_T97 y222 x5_1).f3⟩ : S97) ) (fun _ hk => hk); have hx14_2 := hcc14 2 _ rfl; (try simp only [show (k97).sz = 4 from rfl, Nat.mul_one, Nat.add_zero] at hx14_2); have hf14_2 := hfr14 2; (try simp only [show (k97).sz = 4 from rfl, Nat.mul_one, Nat.add_zero] at hf14_2); clear hcl14 hcc14 hfr14; (try clear hM14)) | ((with_reducible refine gate_store (t := 3) (p := 30) rfl ?_); refine store_event (t := 3) (p := 30) (v := ?vo_w15) (w1 := (w13.setCell ⟨go5, (x5_1 : Int).toNat * 4 + 2, none⟩ (.int .i64 (wrap64 ((wrap64 (x1_1 + 1)) + 1))))) ?hg ?ho ?hn ?hr ?_; (case ho => rfl); (case hg => rfl); (case hn => rfl); (case hr => (go_simp; done)); intro w15 hw; have hg : w13.grownBy w15 (some go5) := (by rw [hw]; exact HP14.2); have hp_ : Kd.R k97 97 w15 w0.heap.size (fun k_ => (P0_ k_ ∨ w.heap.size ≤ k_)) (.slice (some ⟨go5, 0, none⟩) x0_1.length co9) y223 := (by rw [hw, Ny223.out]; exact HP14.1); clear HP14; replace HB := aM ((by rw [hw]; exact below_set (HB.out) GB5.out : Below w0.heap.size w0 w15)); replace HK := aM (Kept.of_grown (S := (fun k_ => P0_ k_)) hg HK.out (fun k_ e_ => (HO_0.out.1 k_ e_))); replace HO_0 := aM (hp_); clear hg hw hp_; have p8 : 0 ≤ (x5_1 : Int) := oD ‹_›; have q8 : (x5_1 : Int) < ((x0_1.length : Int) : Int) := oD ‹_›; obtain ⟨ce8, hcl8, hM8, hcc8, hfr8⟩ := Kd.R_elem HO_0.out z97 (x5_1 : Int) p8 q8; obtain rfl := k97_openM hM8; have hx8_0 : w15.cell? ⟨go5, (x5_1 : Int).toNat * 4, none⟩ = some (.int .i64 ((rd_T97 y223 x5_1).f0)) := hcc8 0 _ rfl; have hx8_1 : w15.cell? ⟨go5, (x5_1 : Int).toNat * 4 + 1, none⟩ = some (.int .i64 ((rd_T97 y223 x5_1).f1)) := hcc8 1 _ rfl; have hx8_2 : w15.cell? ⟨go5, (x5_1 : Int).toNat * 4 + 2, none⟩ = some (.int .i64 ((rd_T97 y223 x5_1).f2)) := hcc8 2 _ rfl; have hx8_3 : w15.cell? ⟨go5, (x5_1 : Int).toNat * 4 + 3, none⟩ = some (.int .i64 ((rd_T97 y223 x5_1).f3)) := hcc8 3 _ rfl; have hf8_0 : w15.frozen? ⟨go5, (x5_1 : Int).toNat * 4, none⟩ = false := hfr8 0; have hf8_1 : w15.frozen? ⟨go5, (x5_1 : Int).toNat * 4 + 1, none⟩ = false := hfr8 1; have hf8_2 : w15.frozen? ⟨go5, (x5_1 : Int).toNat * 4 + 2, none⟩ = false := hfr8 2; have hf8_3 : w15.frozen? ⟨go5, (x5_1 : Int).toNat * 4 + 3, none⟩ = false := hfr8 3; clear hcl8 hcc8 hfr8; (try clear hM8); replace p8 := eq_true p8; replace q8 := eq_true q8; have HX16 := aM (show Kd.R k97 97 w15 w0.heap.size (fun k_ => (P0_ k_ ∨ w.heap.size ≤ k_)) (.slice (some ⟨go5, 0, none⟩) x0_1.length co9) y223 from HO_0.out); obtain ⟨ce16, hcl16, hM16, hcc16, hfr16⟩ := Kd.R_elem HX16.out z97 (x5_1 : Int) (oD ‹_›) (by have h_ : (x5_1 : Int) < ((x0_1.length : Int) : Int) := oD ‹_›; exact h_); obtain rfl := k97_openM hM16; have HP16 := Kd.R_seg HX16.out (x5_1 : Int) (oD ‹_›) (by have h_ : (x5_1 : Int) < ((x0_1.length : Int) : Int) := oD ‹_›; exact h_) (seg := [.int .i64 (wrap64 ((wrap64 ((wrap64 (x1_1 + 1)) + 1)) + 1))]) (j := 3) hcl16 hcc16 (show 4 ≤ 4 from by decide) (x' := (⟨(rd_T97 y223 x5_1).f0, (rd_T97 y223 x5_1).f1, (rd_T97 y223 x5_1).f2, wrap64 ((wrap64 ((wrap64 (x1_1 + 1)) + 1)) + 1)⟩ : S97)) (k97_mkM _ _ _ (⟨(rd_T97 y223 x5_1).f0, (rd_T97 y223 x5_1).f1, (rd_T97 y223 x5_1).f2, wrap64 ((wrap64 ((wrap64 (x1_1 + 1)) + 1)) + 1)⟩ : S97) ) (fun _ hk => hk); have hx16_3 := hcc16 3 _ rfl; (try simp only [show (k97).sz = 4 from rfl, Nat.mul_one, Nat.add_zero] at hx16_3); have hf16_3 := hfr16 3; (try simp only [show (k97).sz = 4 from rfl, Nat.mul_one, Nat.add_zero] at hf16_3); clear hcl16 hcc16 hfr16; (try clear hM16)) | ((with_reducible refine gate_store (t := 3) (p := 37) rfl ?_); refine store_event (t := 3) (p := 37) (v := ?vo_w17) (w1 := (w15.setCell ⟨go5, (x5_1 : Int).toNat * 4 + 3, none⟩ (.int .i64 (wrap64 ((wrap64 ((wrap64 (x1_1 + 1)) + 1)) + 1))))) ?hg ?ho ?hn ?hr ?_; (case ho => rfl); (case hg => rfl); (case hn => rfl); (case hr => (go_simp; done)); intro w17 hw; have hg : w15.grownBy w17 (some go5) := (by rw [hw]; exact HP16.2); have hp_ : Kd.R k97 97 w17 w0.heap.size (fun k_ => (P0_ k_ ∨ w.heap.size ≤ k_)) (.slice (some ⟨go5, 0, none⟩) x0_1.length co9) y224 := (by rw [hw, Ny224.out]; exact HP16.1); clear HP16; replace HB := aM ((by rw [hw]; exact below_set (HB.out) GB5.out : Below w0.heap.size w0 w17)); replace HK := aM (Kept.of_grown (S := (fun k_ => P0_ k_)) hg HK.out (fun k_ e_ => (HO_0.out.1 k_ e_))); replace HO_0 := aM (hp_); clear hg hw hp_))
  go_roundg k1
  case measure => have := HK1.out; omega
  case rel => exact ⟨(y224), (wrap64 ((wrap64 ((wrap64 ((wrap64 (x1_1 + 1)) + 1)) + 1)) + 1)), (wrap64 (x5_1 + 1)), (by rfl), (by rfl), H', ⟨by have := HK1.out; omega⟩, ⟨by exact HO_0.out⟩, ⟨by repeat ((with_reducible exact HK.out))⟩, ⟨by repeat ((with_reducible exact HB.out))⟩⟩
def laws_markNet.f (k : Nat) (l0_0 : List ByteArray) (l0_1 : List (S92)) (l0_2 : List Int) (l0_3 : List Int) (l0_4 : List (S95)) (l0_5 : List (S97)) (a1 : Int) : Option (Int × List ByteArray × (List (S92)) × List Int × List Int × (List (S95)) × (List (S97))) := (laws_markStringS.f k l0_0 a1).bind fun bt226 => ((laws_markLinkS.f k l0_1 bt226.1).bind fun bt228 => ((laws_markIntS.f k l0_2 bt228.1).bind fun bt230 => ((laws_markIntS.f k l0_3 bt230.1).bind fun bt232 => ((laws_markImportS.f k l0_4 bt232.1).bind fun bt234 => ((laws_markFilterS.f k l0_5 bt234.1).bind fun bt236 => (some (bt236.1, bt226.2, bt228.2, bt230.2, bt232.2, bt234.2, bt236.2)))))))
theorem laws_markNet.calls (k : Nat) (P0_0_ : Nat → Prop) (u9000_ : Value) (l0_0 : List ByteArray) (P0_1_ : Nat → Prop) (u9001_ : Value) (l0_1 : List (S92)) (P0_2_ : Nat → Prop) (u9002_ : Value) (l0_2 : List Int) (P0_3_ : Nat → Prop) (u9003_ : Value) (l0_3 : List Int) (P0_4_ : Nat → Prop) (u9004_ : Value) (l0_4 : List (S95)) (P0_5_ : Nat → Prop) (u9005_ : Value) (l0_5 : List (S97)) (a1 : Int) (r1 : Int) (r2 : List ByteArray) (r3 : List (S92)) (r4 : List Int) (r5 : List Int) (r6 : List (S95)) (r7 : List (S97)) (w0 w : World) (hB : Below w0.heap.size w0 w) (ho0_0 : Kd.R Kd.string 9 w w0.heap.size P0_0_ u9000_ l0_0) (ho0_1 : Kd.R k92 92 w w0.heap.size P0_1_ u9001_ l0_1) (ho0_2 : Kd.R (Kd.int .i64) 3 w w0.heap.size P0_2_ u9002_ l0_2) (hp0_2_0_3 : ∀ k_, P0_2_ k_ → ¬ P0_3_ k_) (ho0_3 : Kd.R (Kd.int .i64) 3 w w0.heap.size P0_3_ u9003_ l0_3) (hp0_3_0_2 : ∀ k_, P0_3_ k_ → ¬ P0_2_ k_) (ho0_4 : Kd.R k95 95 w w0.heap.size P0_4_ u9004_ l0_4) (ho0_5 : Kd.R k97 97 w w0.heap.size P0_5_ u9005_ l0_5) (h : laws_markNet.f k l0_0 l0_1 l0_2 l0_3 l0_4 l0_5 a1 = some (r1, r2, r3, r4, r5, r6, r7)) :
  Calls Try.prog 18 #[.agg #[u9000_, u9001_, u9002_, u9003_, u9004_, u9005_], .int .i64 a1] w fun e w' => e = .returned (.int .i64 r1) ∧ Kd.R Kd.string 9 w' w0.heap.size (fun k_ => ((P0_0_ k_ ∨ P0_1_ k_ ∨ P0_2_ k_ ∨ P0_3_ k_ ∨ P0_4_ k_ ∨ P0_5_ k_) ∨ w.heap.size ≤ k_)) u9000_ r2 ∧ Kd.R k92 92 w' w0.heap.size (fun k_ => ((P0_0_ k_ ∨ P0_1_ k_ ∨ P0_2_ k_ ∨ P0_3_ k_ ∨ P0_4_ k_ ∨ P0_5_ k_) ∨ w.heap.size ≤ k_)) u9001_ r3 ∧ Kd.R (Kd.int .i64) 3 w' w0.heap.size (fun k_ => ((P0_0_ k_ ∨ P0_1_ k_ ∨ P0_2_ k_ ∨ P0_3_ k_ ∨ P0_4_ k_ ∨ P0_5_ k_) ∨ w.heap.size ≤ k_)) u9002_ r4 ∧ Kd.R (Kd.int .i64) 3 w' w0.heap.size (fun k_ => ((P0_0_ k_ ∨ P0_1_ k_ ∨ P0_2_ k_ ∨ P0_3_ k_ ∨ P0_4_ k_ ∨ P0_5_ k_) ∨ w.heap.size ≤ k_)) u9003_ r5 ∧ Kd.R k95 95 w' w0.heap.size (fun k_ => ((P0_0_ k_ ∨ P0_1_ k_ ∨ P0_2_ k_ ∨ P0_3_ k_ ∨ P0_4_ k_ ∨ P0_5_ k_) ∨ w.heap.size ≤ k_)) u9004_ r6 ∧ Kd.R k97 97 w' w0.heap.size (fun k_ => ((P0_0_ k_ ∨ P0_1_ k_ ∨ P0_2_ k_ ∨ P0_3_ k_ ∨ P0_4_ k_ ∨ P0_5_ k_) ∨ w.heap.size ≤ k_)) u9005_ r7 ∧ Below w0.heap.size w0 w' ∧ Kept w w' (fun k_ => P0_0_ k_ ∨ P0_1_ k_ ∨ P0_2_ k_ ∨ P0_3_ k_ ∨ P0_4_ k_ ∨ P0_5_ k_) := by
 have hu38 := Try.underlying38
 have HO0_0 := aM (show Kd.R Kd.string 9 w w0.heap.size (fun k_ => ((P0_0_ k_ ∨ P0_1_ k_ ∨ P0_2_ k_ ∨ P0_3_ k_ ∨ P0_4_ k_ ∨ P0_5_ k_) ∨ w.heap.size ≤ k_)) u9000_ l0_0 from Kd.R_mono ho0_0 (fun k_ hk => (.inl (.inl hk))))
 have HO0_1 := aM (show Kd.R k92 92 w w0.heap.size (fun k_ => ((P0_0_ k_ ∨ P0_1_ k_ ∨ P0_2_ k_ ∨ P0_3_ k_ ∨ P0_4_ k_ ∨ P0_5_ k_) ∨ w.heap.size ≤ k_)) u9001_ l0_1 from Kd.R_mono ho0_1 (fun k_ hk => (.inl (.inr (.inl hk)))))
 have HO0_2 := aM (show Kd.R (Kd.int .i64) 3 w w0.heap.size (fun k_ => ((P0_0_ k_ ∨ P0_1_ k_ ∨ P0_2_ k_ ∨ P0_3_ k_ ∨ P0_4_ k_ ∨ P0_5_ k_) ∨ w.heap.size ≤ k_) ∧ some k_ ≠ (u9003_ : Value).ownBlock) u9002_ l0_2 from Kd.R_mono ho0_2 (fun k_ hk => ⟨(.inl (.inr (.inr (.inl hk)))), fun e_ => hp0_2_0_3 k_ hk (ho0_3.1 k_ e_.symm)⟩))
 have HO0_3 := aM (show Kd.R (Kd.int .i64) 3 w w0.heap.size (fun k_ => ((P0_0_ k_ ∨ P0_1_ k_ ∨ P0_2_ k_ ∨ P0_3_ k_ ∨ P0_4_ k_ ∨ P0_5_ k_) ∨ w.heap.size ≤ k_) ∧ some k_ ≠ (u9002_ : Value).ownBlock) u9003_ l0_3 from Kd.R_mono ho0_3 (fun k_ hk => ⟨(.inl (.inr (.inr (.inr (.inl hk))))), fun e_ => hp0_3_0_2 k_ hk (ho0_2.1 k_ e_.symm)⟩))
 have HO0_4 := aM (show Kd.R k95 95 w w0.heap.size (fun k_ => ((P0_0_ k_ ∨ P0_1_ k_ ∨ P0_2_ k_ ∨ P0_3_ k_ ∨ P0_4_ k_ ∨ P0_5_ k_) ∨ w.heap.size ≤ k_)) u9004_ l0_4 from Kd.R_mono ho0_4 (fun k_ hk => (.inl (.inr (.inr (.inr (.inr (.inl hk))))))))
 have HO0_5 := aM (show Kd.R k97 97 w w0.heap.size (fun k_ => ((P0_0_ k_ ∨ P0_1_ k_ ∨ P0_2_ k_ ∨ P0_3_ k_ ∨ P0_4_ k_ ∨ P0_5_ k_) ∨ w.heap.size ≤ k_)) u9005_ l0_5 from Kd.R_mono ho0_5 (fun k_ hk => (.inl (.inr (.inr (.inr (.inr (.inr hk))))))))
 have HK := aM (Kept.refl w (fun k_ => P0_0_ k_ ∨ P0_1_ k_ ∨ P0_2_ k_ ∨ P0_3_ k_ ∨ P0_4_ k_ ∨ P0_5_ k_))
 have HW0 := aM hB.size
 have HB := aM hB
 clear hB
 have H : ((laws_markStringS.f k l0_0 a1).bind fun bt226 => ((laws_markLinkS.f k l0_1 bt226.1).bind fun bt228 => ((laws_markIntS.f k l0_2 bt228.1).bind fun bt230 => ((laws_markIntS.f k l0_3 bt230.1).bind fun bt232 => ((laws_markImportS.f k l0_4 bt232.1).bind fun bt234 => ((laws_markFilterS.f k l0_5 bt234.1).bind fun bt236 => (some (bt236.1, bt226.2, bt228.2, bt230.2, bt232.2, bt234.2, bt236.2)))))))) = some (r1, r2, r3, r4, r5, r6, r7) := h
 clear h
 replace H := bS H
 obtain ⟨⟨t226, t227⟩, A30, H⟩ := H
 replace H : ((laws_markLinkS.f k l0_1 t226).bind fun bt228 => ((laws_markIntS.f k l0_2 bt228.1).bind fun bt230 => ((laws_markIntS.f k l0_3 bt230.1).bind fun bt232 => ((laws_markImportS.f k l0_4 bt232.1).bind fun bt234 => ((laws_markFilterS.f k l0_5 bt234.1).bind fun bt236 => (some (bt236.1, t227, bt228.2, bt230.2, bt232.2, bt234.2, bt236.2))))))) = some (r1, r2, r3, r4, r5, r6, r7) := H
 have A3 := aM A30
 clear A30
 replace H := bS H
 obtain ⟨⟨t228, t229⟩, A40, H⟩ := H
 replace H : ((laws_markIntS.f k l0_2 t228).bind fun bt230 => ((laws_markIntS.f k l0_3 bt230.1).bind fun bt232 => ((laws_markImportS.f k l0_4 bt232.1).bind fun bt234 => ((laws_markFilterS.f k l0_5 bt234.1).bind fun bt236 => (some (bt236.1, t227, t229, bt230.2, bt232.2, bt234.2, bt236.2)))))) = some (r1, r2, r3, r4, r5, r6, r7) := H
 have A4 := aM A40
 clear A40
 replace H := bS H
 obtain ⟨⟨t230, t231⟩, A50, H⟩ := H
 replace H : ((laws_markIntS.f k l0_3 t230).bind fun bt232 => ((laws_markImportS.f k l0_4 bt232.1).bind fun bt234 => ((laws_markFilterS.f k l0_5 bt234.1).bind fun bt236 => (some (bt236.1, t227, t229, t231, bt232.2, bt234.2, bt236.2))))) = some (r1, r2, r3, r4, r5, r6, r7) := H
 have A5 := aM A50
 clear A50
 replace H := bS H
 obtain ⟨⟨t232, t233⟩, A60, H⟩ := H
 replace H : ((laws_markImportS.f k l0_4 t232).bind fun bt234 => ((laws_markFilterS.f k l0_5 bt234.1).bind fun bt236 => (some (bt236.1, t227, t229, t231, t233, bt234.2, bt236.2)))) = some (r1, r2, r3, r4, r5, r6, r7) := H
 have A6 := aM A60
 clear A60
 replace H := bS H
 obtain ⟨⟨t234, t235⟩, A70, H⟩ := H
 replace H : ((laws_markFilterS.f k l0_5 t234).bind fun bt236 => (some (bt236.1, t227, t229, t231, t233, t235, bt236.2))) = some (r1, r2, r3, r4, r5, r6, r7) := H
 have A7 := aM A70
 clear A70
 replace H := bS H
 obtain ⟨⟨t236, t237⟩, A80, H⟩ := H
 replace H : (some (t236, t227, t229, t231, t233, t235, t237)) = some (r1, r2, r3, r4, r5, r6, r7) := H
 have A8 := aM A80
 clear A80
 simp only [Option.some.injEq, Prod.mk.injEq] at H
 obtain ⟨rfl, rfl, rfl, rfl, rfl, rfl, rfl⟩ := H
 obtain ⟨Ao9, co9, eo9⟩ := Kd.R_slice HO0_0.out
 subst eo9
 obtain ⟨Ao10, co10, eo10⟩ := Kd.R_slice HO0_1.out
 subst eo10
 obtain ⟨Ao11, co11, eo11⟩ := Kd.R_slice HO0_2.out
 subst eo11
 obtain ⟨Ao12, co12, eo12⟩ := Kd.R_slice HO0_3.out
 subst eo12
 obtain ⟨Ao13, co13, eo13⟩ := Kd.R_slice HO0_4.out
 subst eo13
 obtain ⟨Ao14, co14, eo14⟩ := Kd.R_slice HO0_5.out
 subst eo14
 go_enter Try.func18, Try.ntmps18
 go_wp2_with (first | ((with_reducible refine gate_dst (N := 2) rfl ?_); refine box_event rfl (N := 2) rfl (cs := #[.slice Ao9 l0_0.length co9, .slice Ao10 l0_1.length co10, .slice Ao11 l0_2.length co11, .slice Ao12 l0_3.length co12, .slice Ao13 l0_4.length co13, .slice Ao14 l0_5.length co14]) (t := 38) (by go_simp; done) ?_; intro gb225 hg w15 hbox hb; replace HO0_0 := aM (Kd.R_below HO0_0.out hb); replace HO0_1 := aM (Kd.R_below HO0_1.out hb); replace HO0_2 := aM (Kd.R_below HO0_2.out hb); replace HO0_3 := aM (Kd.R_below HO0_3.out hb); replace HO0_4 := aM (Kd.R_below HO0_4.out hb); replace HO0_5 := aM (Kd.R_below HO0_5.out hb); have BK225 := aM (hbox); have GW225 := aM ((by rw [hg]; exact HK.out.1 : w.heap.size ≤ gb225)); replace HK := aM (Kept.below (S := (fun k_ => P0_0_ k_ ∨ P0_1_ k_ ∨ P0_2_ k_ ∨ P0_3_ k_ ∨ P0_4_ k_ ∨ P0_5_ k_)) HK.out hb); have GE225 := aM ((by rw [hg]; exact (below_size HB.out) : w0.heap.size ≤ gb225)); replace HB := aB HB hb; clear hb hbox hg; obtain ⟨hcz16_0, hcz16_1, hcz16_2, hcz16_3, hcz16_4, hcz16_5⟩ := swc6 BK225.out; obtain ⟨hfz16_0, hfz16_1, hfz16_2, hfz16_3, hfz16_4, hfz16_5⟩ := swf6 BK225.out) | (go_at_call 54; (with_reducible refine (laws_markStringS.calls k (fun k_ => some k_ = (.slice Ao9 l0_0.length co9 : Value).ownBlock) (.slice Ao9 l0_0.length co9) l0_0 a1 t226 t227 w0 _ ?side1 ?side2 A3.out).mono ?_); (case side1 => repeat ((with_reducible exact HB.out))); (case side2 => exact Kd.R_tight rfl HO0_0.out); rintro e w17 ⟨rfl, hy0, hb, hkp⟩; replace HO0_1 := aM (Kd.R_mono (ok' := fun k_ => ((P0_0_ k_ ∨ P0_1_ k_ ∨ P0_2_ k_ ∨ P0_3_ k_ ∨ P0_4_ k_ ∨ P0_5_ k_) ∨ w.heap.size ≤ k_)) (Kd.R_keptB ((Kd.R_apart' HO0_1.out (Kd.R_typed HO0_0.out) (by decide))) hkp (fun k_ hk_ hs_ => (hk_.2) hs_)) (fun k_ hk_ => hk_.1.1)); replace HO0_2 := aM (Kd.R_mono (ok' := fun k_ => ((P0_0_ k_ ∨ P0_1_ k_ ∨ P0_2_ k_ ∨ P0_3_ k_ ∨ P0_4_ k_ ∨ P0_5_ k_) ∨ w.heap.size ≤ k_) ∧ some k_ ≠ (.slice Ao12 l0_3.length co12 : Value).ownBlock) (Kd.R_keptB ((Kd.R_apart' HO0_2.out (Kd.R_typed HO0_0.out) (by decide))) hkp (fun k_ hk_ hs_ => (hk_.2) hs_)) (fun k_ hk_ => ⟨hk_.1.1.1, hk_.1.1.2⟩)); replace HO0_3 := aM (Kd.R_mono (ok' := fun k_ => ((P0_0_ k_ ∨ P0_1_ k_ ∨ P0_2_ k_ ∨ P0_3_ k_ ∨ P0_4_ k_ ∨ P0_5_ k_) ∨ w.heap.size ≤ k_) ∧ some k_ ≠ (.slice Ao11 l0_2.length co11 : Value).ownBlock) (Kd.R_keptB ((Kd.R_apart' HO0_3.out (Kd.R_typed HO0_0.out) (by decide))) hkp (fun k_ hk_ hs_ => (hk_.2) hs_)) (fun k_ hk_ => ⟨hk_.1.1.1, hk_.1.1.2⟩)); replace HO0_4 := aM (Kd.R_mono (ok' := fun k_ => ((P0_0_ k_ ∨ P0_1_ k_ ∨ P0_2_ k_ ∨ P0_3_ k_ ∨ P0_4_ k_ ∨ P0_5_ k_) ∨ w.heap.size ≤ k_)) (Kd.R_keptB ((Kd.R_apart' HO0_4.out (Kd.R_typed HO0_0.out) (by decide))) hkp (fun k_ hk_ hs_ => (hk_.2) hs_)) (fun k_ hk_ => hk_.1.1)); replace HO0_5 := aM (Kd.R_mono (ok' := fun k_ => ((P0_0_ k_ ∨ P0_1_ k_ ∨ P0_2_ k_ ∨ P0_3_ k_ ∨ P0_4_ k_ ∨ P0_5_ k_) ∨ w.heap.size ≤ k_)) (Kd.R_keptB ((Kd.R_apart' HO0_5.out (Kd.R_typed HO0_0.out) (by decide))) hkp (fun k_ hk_ hs_ => (hk_.2) hs_)) (fun k_ hk_ => hk_.1.1)); replace BK225 := aM (blk_kept BK225.out hkp (fun hs_ => (fun e_ => (Kd.R_ne HO0_0.out BK225.out (by decide)) e_) hs_)); replace HK := aM (Kept.then_ (S := (fun k_ => P0_0_ k_ ∨ P0_1_ k_ ∨ P0_2_ k_ ∨ P0_3_ k_ ∨ P0_4_ k_ ∨ P0_5_ k_)) HK.out hkp (fun k_ hs_ => (fun e_ => (HO0_0.out.1 k_ e_.symm)) hs_)); replace HO0_0 := aM (Kd.R_reok rfl hy0 (fun k_ e_ => HO0_0.out.1 k_ e_)); replace HB := aM (hb); (try clear hb); (try clear hkp); (try clear hy0); obtain ⟨hcz18_0, hcz18_1, hcz18_2, hcz18_3, hcz18_4, hcz18_5⟩ := swc6 BK225.out; obtain ⟨hfz18_0, hfz18_1, hfz18_2, hfz18_3, hfz18_4, hfz18_5⟩ := swf6 BK225.out) | (go_at_call 55; (with_reducible refine (laws_markLinkS.calls k (fun k_ => some k_ = (.slice Ao10 l0_1.length co10 : Value).ownBlock) (.slice Ao10 l0_1.length co10) l0_1 t226 t228 t229 w0 _ ?side1 ?side2 A4.out).mono ?_); (case side1 => repeat ((with_reducible exact HB.out))); (case side2 => exact Kd.R_tight rfl HO0_1.out); rintro e w19 ⟨rfl, hy0, hb, hkp⟩; replace HO0_0 := aM (Kd.R_mono (ok' := fun k_ => ((P0_0_ k_ ∨ P0_1_ k_ ∨ P0_2_ k_ ∨ P0_3_ k_ ∨ P0_4_ k_ ∨ P0_5_ k_) ∨ w.heap.size ≤ k_)) (Kd.R_keptB ((Kd.R_apart' HO0_0.out (Kd.R_typed HO0_1.out) (by decide))) hkp (fun k_ hk_ hs_ => (hk_.2) hs_)) (fun k_ hk_ => hk_.1.1)); replace HO0_2 := aM (Kd.R_mono (ok' := fun k_ => ((P0_0_ k_ ∨ P0_1_ k_ ∨ P0_2_ k_ ∨ P0_3_ k_ ∨ P0_4_ k_ ∨ P0_5_ k_) ∨ w.heap.size ≤ k_) ∧ some k_ ≠ (.slice Ao12 l0_3.length co12 : Value).ownBlock) (Kd.R_keptB ((Kd.R_apart' HO0_2.out (Kd.R_typed HO0_1.out) (by decide))) hkp (fun k_ hk_ hs_ => (hk_.2) hs_)) (fun k_ hk_ => ⟨hk_.1.1.1, hk_.1.1.2⟩)); replace HO0_3 := aM (Kd.R_mono (ok' := fun k_ => ((P0_0_ k_ ∨ P0_1_ k_ ∨ P0_2_ k_ ∨ P0_3_ k_ ∨ P0_4_ k_ ∨ P0_5_ k_) ∨ w.heap.size ≤ k_) ∧ some k_ ≠ (.slice Ao11 l0_2.length co11 : Value).ownBlock) (Kd.R_keptB ((Kd.R_apart' HO0_3.out (Kd.R_typed HO0_1.out) (by decide))) hkp (fun k_ hk_ hs_ => (hk_.2) hs_)) (fun k_ hk_ => ⟨hk_.1.1.1, hk_.1.1.2⟩)); replace HO0_4 := aM (Kd.R_mono (ok' := fun k_ => ((P0_0_ k_ ∨ P0_1_ k_ ∨ P0_2_ k_ ∨ P0_3_ k_ ∨ P0_4_ k_ ∨ P0_5_ k_) ∨ w.heap.size ≤ k_)) (Kd.R_keptB ((Kd.R_apart' HO0_4.out (Kd.R_typed HO0_1.out) (by decide))) hkp (fun k_ hk_ hs_ => (hk_.2) hs_)) (fun k_ hk_ => hk_.1.1)); replace HO0_5 := aM (Kd.R_mono (ok' := fun k_ => ((P0_0_ k_ ∨ P0_1_ k_ ∨ P0_2_ k_ ∨ P0_3_ k_ ∨ P0_4_ k_ ∨ P0_5_ k_) ∨ w.heap.size ≤ k_)) (Kd.R_keptB ((Kd.R_apart' HO0_5.out (Kd.R_typed HO0_1.out) (by decide))) hkp (fun k_ hk_ hs_ => (hk_.2) hs_)) (fun k_ hk_ => hk_.1.1)); replace BK225 := aM (blk_kept BK225.out hkp (fun hs_ => (fun e_ => (Kd.R_ne HO0_1.out BK225.out (by decide)) e_) hs_)); replace HK := aM (Kept.then_ (S := (fun k_ => P0_0_ k_ ∨ P0_1_ k_ ∨ P0_2_ k_ ∨ P0_3_ k_ ∨ P0_4_ k_ ∨ P0_5_ k_)) HK.out hkp (fun k_ hs_ => (fun e_ => (HO0_1.out.1 k_ e_.symm)) hs_)); replace HO0_1 := aM (Kd.R_reok rfl hy0 (fun k_ e_ => HO0_1.out.1 k_ e_)); replace HB := aM (hb); (try clear hb); (try clear hkp); (try clear hy0); obtain ⟨hcz20_0, hcz20_1, hcz20_2, hcz20_3, hcz20_4, hcz20_5⟩ := swc6 BK225.out; obtain ⟨hfz20_0, hfz20_1, hfz20_2, hfz20_3, hfz20_4, hfz20_5⟩ := swf6 BK225.out) | (go_at_call 19; (with_reducible refine (laws_markIntS.calls k (fun k_ => some k_ = (.slice Ao11 l0_2.length co11 : Value).ownBlock) (.slice Ao11 l0_2.length co11) l0_2 t228 t230 t231 w0 _ ?side1 ?side2 A5.out).mono ?_); (case side1 => repeat ((with_reducible exact HB.out))); (case side2 => exact Kd.R_tight rfl HO0_2.out); rintro e w21 ⟨rfl, hy0, hb, hkp⟩; replace HO0_0 := aM (Kd.R_mono (ok' := fun k_ => ((P0_0_ k_ ∨ P0_1_ k_ ∨ P0_2_ k_ ∨ P0_3_ k_ ∨ P0_4_ k_ ∨ P0_5_ k_) ∨ w.heap.size ≤ k_)) (Kd.R_keptB ((Kd.R_apart' HO0_0.out (Kd.R_typed HO0_2.out) (by decide))) hkp (fun k_ hk_ hs_ => (hk_.2) hs_)) (fun k_ hk_ => hk_.1.1)); replace HO0_1 := aM (Kd.R_mono (ok' := fun k_ => ((P0_0_ k_ ∨ P0_1_ k_ ∨ P0_2_ k_ ∨ P0_3_ k_ ∨ P0_4_ k_ ∨ P0_5_ k_) ∨ w.heap.size ≤ k_)) (Kd.R_keptB ((Kd.R_apart' HO0_1.out (Kd.R_typed HO0_2.out) (by decide))) hkp (fun k_ hk_ hs_ => (hk_.2) hs_)) (fun k_ hk_ => hk_.1.1)); replace HO0_3 := aM (Kd.R_mono (ok' := fun k_ => ((P0_0_ k_ ∨ P0_1_ k_ ∨ P0_2_ k_ ∨ P0_3_ k_ ∨ P0_4_ k_ ∨ P0_5_ k_) ∨ w.heap.size ≤ k_) ∧ some k_ ≠ (.slice Ao11 l0_2.length co11 : Value).ownBlock) (Kd.R_keptB (HO0_3.out) hkp (fun k_ hk_ hs_ => (hk_.2) hs_)) (fun k_ hk_ => ⟨hk_.1.1, hk_.1.2⟩)); replace HO0_4 := aM (Kd.R_mono (ok' := fun k_ => ((P0_0_ k_ ∨ P0_1_ k_ ∨ P0_2_ k_ ∨ P0_3_ k_ ∨ P0_4_ k_ ∨ P0_5_ k_) ∨ w.heap.size ≤ k_)) (Kd.R_keptB ((Kd.R_apart' HO0_4.out (Kd.R_typed HO0_2.out) (by decide))) hkp (fun k_ hk_ hs_ => (hk_.2) hs_)) (fun k_ hk_ => hk_.1.1)); replace HO0_5 := aM (Kd.R_mono (ok' := fun k_ => ((P0_0_ k_ ∨ P0_1_ k_ ∨ P0_2_ k_ ∨ P0_3_ k_ ∨ P0_4_ k_ ∨ P0_5_ k_) ∨ w.heap.size ≤ k_)) (Kd.R_keptB ((Kd.R_apart' HO0_5.out (Kd.R_typed HO0_2.out) (by decide))) hkp (fun k_ hk_ hs_ => (hk_.2) hs_)) (fun k_ hk_ => hk_.1.1)); replace BK225 := aM (blk_kept BK225.out hkp (fun hs_ => (fun e_ => (Kd.R_ne HO0_2.out BK225.out (by decide)) e_) hs_)); replace HK := aM (Kept.then_ (S := (fun k_ => P0_0_ k_ ∨ P0_1_ k_ ∨ P0_2_ k_ ∨ P0_3_ k_ ∨ P0_4_ k_ ∨ P0_5_ k_)) HK.out hkp (fun k_ hs_ => (fun e_ => (HO0_2.out.1 k_ e_.symm).1) hs_)); replace HO0_2 := aM (Kd.R_reok rfl hy0 (fun k_ e_ => HO0_2.out.1 k_ e_)); replace HB := aM (hb); (try clear hb); (try clear hkp); (try clear hy0); obtain ⟨hcz22_0, hcz22_1, hcz22_2, hcz22_3, hcz22_4, hcz22_5⟩ := swc6 BK225.out; obtain ⟨hfz22_0, hfz22_1, hfz22_2, hfz22_3, hfz22_4, hfz22_5⟩ := swf6 BK225.out) | (go_at_call 19; (with_reducible refine (laws_markIntS.calls k (fun k_ => some k_ = (.slice Ao12 l0_3.length co12 : Value).ownBlock) (.slice Ao12 l0_3.length co12) l0_3 t230 t232 t233 w0 _ ?side1 ?side2 A6.out).mono ?_); (case side1 => repeat ((with_reducible exact HB.out))); (case side2 => exact Kd.R_tight rfl HO0_3.out); rintro e w23 ⟨rfl, hy0, hb, hkp⟩; replace HO0_0 := aM (Kd.R_mono (ok' := fun k_ => ((P0_0_ k_ ∨ P0_1_ k_ ∨ P0_2_ k_ ∨ P0_3_ k_ ∨ P0_4_ k_ ∨ P0_5_ k_) ∨ w.heap.size ≤ k_)) (Kd.R_keptB ((Kd.R_apart' HO0_0.out (Kd.R_typed HO0_3.out) (by decide))) hkp (fun k_ hk_ hs_ => (hk_.2) hs_)) (fun k_ hk_ => hk_.1.1)); replace HO0_1 := aM (Kd.R_mono (ok' := fun k_ => ((P0_0_ k_ ∨ P0_1_ k_ ∨ P0_2_ k_ ∨ P0_3_ k_ ∨ P0_4_ k_ ∨ P0_5_ k_) ∨ w.heap.size ≤ k_)) (Kd.R_keptB ((Kd.R_apart' HO0_1.out (Kd.R_typed HO0_3.out) (by decide))) hkp (fun k_ hk_ hs_ => (hk_.2) hs_)) (fun k_ hk_ => hk_.1.1)); replace HO0_2 := aM (Kd.R_mono (ok' := fun k_ => ((P0_0_ k_ ∨ P0_1_ k_ ∨ P0_2_ k_ ∨ P0_3_ k_ ∨ P0_4_ k_ ∨ P0_5_ k_) ∨ w.heap.size ≤ k_) ∧ some k_ ≠ (.slice Ao12 l0_3.length co12 : Value).ownBlock) (Kd.R_keptB (HO0_2.out) hkp (fun k_ hk_ hs_ => (hk_.2) hs_)) (fun k_ hk_ => ⟨hk_.1.1, hk_.1.2⟩)); replace HO0_4 := aM (Kd.R_mono (ok' := fun k_ => ((P0_0_ k_ ∨ P0_1_ k_ ∨ P0_2_ k_ ∨ P0_3_ k_ ∨ P0_4_ k_ ∨ P0_5_ k_) ∨ w.heap.size ≤ k_)) (Kd.R_keptB ((Kd.R_apart' HO0_4.out (Kd.R_typed HO0_3.out) (by decide))) hkp (fun k_ hk_ hs_ => (hk_.2) hs_)) (fun k_ hk_ => hk_.1.1)); replace HO0_5 := aM (Kd.R_mono (ok' := fun k_ => ((P0_0_ k_ ∨ P0_1_ k_ ∨ P0_2_ k_ ∨ P0_3_ k_ ∨ P0_4_ k_ ∨ P0_5_ k_) ∨ w.heap.size ≤ k_)) (Kd.R_keptB ((Kd.R_apart' HO0_5.out (Kd.R_typed HO0_3.out) (by decide))) hkp (fun k_ hk_ hs_ => (hk_.2) hs_)) (fun k_ hk_ => hk_.1.1)); replace BK225 := aM (blk_kept BK225.out hkp (fun hs_ => (fun e_ => (Kd.R_ne HO0_3.out BK225.out (by decide)) e_) hs_)); replace HK := aM (Kept.then_ (S := (fun k_ => P0_0_ k_ ∨ P0_1_ k_ ∨ P0_2_ k_ ∨ P0_3_ k_ ∨ P0_4_ k_ ∨ P0_5_ k_)) HK.out hkp (fun k_ hs_ => (fun e_ => (HO0_3.out.1 k_ e_.symm).1) hs_)); replace HO0_3 := aM (Kd.R_reok rfl hy0 (fun k_ e_ => HO0_3.out.1 k_ e_)); replace HB := aM (hb); (try clear hb); (try clear hkp); (try clear hy0); obtain ⟨hcz24_0, hcz24_1, hcz24_2, hcz24_3, hcz24_4, hcz24_5⟩ := swc6 BK225.out; obtain ⟨hfz24_0, hfz24_1, hfz24_2, hfz24_3, hfz24_4, hfz24_5⟩ := swf6 BK225.out) | (go_at_call 56; (with_reducible refine (laws_markImportS.calls k (fun k_ => some k_ = (.slice Ao13 l0_4.length co13 : Value).ownBlock) (.slice Ao13 l0_4.length co13) l0_4 t232 t234 t235 w0 _ ?side1 ?side2 A7.out).mono ?_); (case side1 => repeat ((with_reducible exact HB.out))); (case side2 => exact Kd.R_tight rfl HO0_4.out); rintro e w25 ⟨rfl, hy0, hb, hkp⟩; replace HO0_0 := aM (Kd.R_mono (ok' := fun k_ => ((P0_0_ k_ ∨ P0_1_ k_ ∨ P0_2_ k_ ∨ P0_3_ k_ ∨ P0_4_ k_ ∨ P0_5_ k_) ∨ w.heap.size ≤ k_)) (Kd.R_keptB ((Kd.R_apart' HO0_0.out (Kd.R_typed HO0_4.out) (by decide))) hkp (fun k_ hk_ hs_ => (hk_.2) hs_)) (fun k_ hk_ => hk_.1.1)); replace HO0_1 := aM (Kd.R_mono (ok' := fun k_ => ((P0_0_ k_ ∨ P0_1_ k_ ∨ P0_2_ k_ ∨ P0_3_ k_ ∨ P0_4_ k_ ∨ P0_5_ k_) ∨ w.heap.size ≤ k_)) (Kd.R_keptB ((Kd.R_apart' HO0_1.out (Kd.R_typed HO0_4.out) (by decide))) hkp (fun k_ hk_ hs_ => (hk_.2) hs_)) (fun k_ hk_ => hk_.1.1)); replace HO0_2 := aM (Kd.R_mono (ok' := fun k_ => ((P0_0_ k_ ∨ P0_1_ k_ ∨ P0_2_ k_ ∨ P0_3_ k_ ∨ P0_4_ k_ ∨ P0_5_ k_) ∨ w.heap.size ≤ k_) ∧ some k_ ≠ (.slice Ao12 l0_3.length co12 : Value).ownBlock) (Kd.R_keptB ((Kd.R_apart' HO0_2.out (Kd.R_typed HO0_4.out) (by decide))) hkp (fun k_ hk_ hs_ => (hk_.2) hs_)) (fun k_ hk_ => ⟨hk_.1.1.1, hk_.1.1.2⟩)); replace HO0_3 := aM (Kd.R_mono (ok' := fun k_ => ((P0_0_ k_ ∨ P0_1_ k_ ∨ P0_2_ k_ ∨ P0_3_ k_ ∨ P0_4_ k_ ∨ P0_5_ k_) ∨ w.heap.size ≤ k_) ∧ some k_ ≠ (.slice Ao11 l0_2.length co11 : Value).ownBlock) (Kd.R_keptB ((Kd.R_apart' HO0_3.out (Kd.R_typed HO0_4.out) (by decide))) hkp (fun k_ hk_ hs_ => (hk_.2) hs_)) (fun k_ hk_ => ⟨hk_.1.1.1, hk_.1.1.2⟩)); replace HO0_5 := aM (Kd.R_mono (ok' := fun k_ => ((P0_0_ k_ ∨ P0_1_ k_ ∨ P0_2_ k_ ∨ P0_3_ k_ ∨ P0_4_ k_ ∨ P0_5_ k_) ∨ w.heap.size ≤ k_)) (Kd.R_keptB ((Kd.R_apart' HO0_5.out (Kd.R_typed HO0_4.out) (by decide))) hkp (fun k_ hk_ hs_ => (hk_.2) hs_)) (fun k_ hk_ => hk_.1.1)); replace BK225 := aM (blk_kept BK225.out hkp (fun hs_ => (fun e_ => (Kd.R_ne HO0_4.out BK225.out (by decide)) e_) hs_)); replace HK := aM (Kept.then_ (S := (fun k_ => P0_0_ k_ ∨ P0_1_ k_ ∨ P0_2_ k_ ∨ P0_3_ k_ ∨ P0_4_ k_ ∨ P0_5_ k_)) HK.out hkp (fun k_ hs_ => (fun e_ => (HO0_4.out.1 k_ e_.symm)) hs_)); replace HO0_4 := aM (Kd.R_reok rfl hy0 (fun k_ e_ => HO0_4.out.1 k_ e_)); replace HB := aM (hb); (try clear hb); (try clear hkp); (try clear hy0); obtain ⟨hcz26_0, hcz26_1, hcz26_2, hcz26_3, hcz26_4, hcz26_5⟩ := swc6 BK225.out; obtain ⟨hfz26_0, hfz26_1, hfz26_2, hfz26_3, hfz26_4, hfz26_5⟩ := swf6 BK225.out) | (go_at_call 57; (with_reducible refine (laws_markFilterS.calls k (fun k_ => some k_ = (.slice Ao14 l0_5.length co14 : Value).ownBlock) (.slice Ao14 l0_5.length co14) l0_5 t234 t236 t237 w0 _ ?side1 ?side2 A8.out).mono ?_); (case side1 => repeat ((with_reducible exact HB.out))); (case side2 => exact Kd.R_tight rfl HO0_5.out); rintro e w27 ⟨rfl, hy0, hb, hkp⟩; replace HO0_0 := aM (Kd.R_mono (ok' := fun k_ => ((P0_0_ k_ ∨ P0_1_ k_ ∨ P0_2_ k_ ∨ P0_3_ k_ ∨ P0_4_ k_ ∨ P0_5_ k_) ∨ w.heap.size ≤ k_)) (Kd.R_keptB ((Kd.R_apart' HO0_0.out (Kd.R_typed HO0_5.out) (by decide))) hkp (fun k_ hk_ hs_ => (hk_.2) hs_)) (fun k_ hk_ => hk_.1.1)); replace HO0_1 := aM (Kd.R_mono (ok' := fun k_ => ((P0_0_ k_ ∨ P0_1_ k_ ∨ P0_2_ k_ ∨ P0_3_ k_ ∨ P0_4_ k_ ∨ P0_5_ k_) ∨ w.heap.size ≤ k_)) (Kd.R_keptB ((Kd.R_apart' HO0_1.out (Kd.R_typed HO0_5.out) (by decide))) hkp (fun k_ hk_ hs_ => (hk_.2) hs_)) (fun k_ hk_ => hk_.1.1)); replace HO0_2 := aM (Kd.R_mono (ok' := fun k_ => ((P0_0_ k_ ∨ P0_1_ k_ ∨ P0_2_ k_ ∨ P0_3_ k_ ∨ P0_4_ k_ ∨ P0_5_ k_) ∨ w.heap.size ≤ k_) ∧ some k_ ≠ (.slice Ao12 l0_3.length co12 : Value).ownBlock) (Kd.R_keptB ((Kd.R_apart' HO0_2.out (Kd.R_typed HO0_5.out) (by decide))) hkp (fun k_ hk_ hs_ => (hk_.2) hs_)) (fun k_ hk_ => ⟨hk_.1.1.1, hk_.1.1.2⟩)); replace HO0_3 := aM (Kd.R_mono (ok' := fun k_ => ((P0_0_ k_ ∨ P0_1_ k_ ∨ P0_2_ k_ ∨ P0_3_ k_ ∨ P0_4_ k_ ∨ P0_5_ k_) ∨ w.heap.size ≤ k_) ∧ some k_ ≠ (.slice Ao11 l0_2.length co11 : Value).ownBlock) (Kd.R_keptB ((Kd.R_apart' HO0_3.out (Kd.R_typed HO0_5.out) (by decide))) hkp (fun k_ hk_ hs_ => (hk_.2) hs_)) (fun k_ hk_ => ⟨hk_.1.1.1, hk_.1.1.2⟩)); replace HO0_4 := aM (Kd.R_mono (ok' := fun k_ => ((P0_0_ k_ ∨ P0_1_ k_ ∨ P0_2_ k_ ∨ P0_3_ k_ ∨ P0_4_ k_ ∨ P0_5_ k_) ∨ w.heap.size ≤ k_)) (Kd.R_keptB ((Kd.R_apart' HO0_4.out (Kd.R_typed HO0_5.out) (by decide))) hkp (fun k_ hk_ hs_ => (hk_.2) hs_)) (fun k_ hk_ => hk_.1.1)); replace BK225 := aM (blk_kept BK225.out hkp (fun hs_ => (fun e_ => (Kd.R_ne HO0_5.out BK225.out (by decide)) e_) hs_)); replace HK := aM (Kept.then_ (S := (fun k_ => P0_0_ k_ ∨ P0_1_ k_ ∨ P0_2_ k_ ∨ P0_3_ k_ ∨ P0_4_ k_ ∨ P0_5_ k_)) HK.out hkp (fun k_ hs_ => (fun e_ => (HO0_5.out.1 k_ e_.symm)) hs_)); replace HO0_5 := aM (Kd.R_reok rfl hy0 (fun k_ e_ => HO0_5.out.1 k_ e_)); replace HB := aM (hb); (try clear hb); (try clear hkp); (try clear hy0)))
 go_ret
 exact ⟨by rfl, by exact HO0_0.out, by exact HO0_1.out, by exact Kd.R_mono HO0_2.out (fun _ hk => hk.1), by exact Kd.R_mono HO0_3.out (fun _ hk => hk.1), by exact HO0_4.out, by exact HO0_5.out, by repeat ((with_reducible exact HB.out)), by repeat ((with_reducible exact HK.out))⟩
def laws_markBoolS.l0 : Nat → List Bool → Int → Int → Option (Int × List Bool)
 | 0, _, _, _ => none
 | k + 1, x0, x1, x5 => if x5 < (x0.length : Int) then (if 0 ≤ x5 then (laws_markBoolS.l0 k (x0.set (x5 : Int).toNat ((Int.tmod x1 3) == 0)) (wrap64 (x1 + 1)) (wrap64 (x5 + 1))) else (none)) else (some (x1, x0))
def laws_markBoolS.f (k : Nat) (l0 : List Bool) (a1 : Int) : Option (Int × List Bool) := laws_markBoolS.l0 k l0 a1 0
theorem laws_markBoolS.calls (k : Nat) (P0_ : Nat → Prop) (u9000_ : Value) (l0 : List Bool) (a1 : Int) (r1 : Int) (r2 : List Bool) (w0 w : World) (hB : Below w0.heap.size w0 w) (ho0 : Kd.R Kd.bool 4 w w0.heap.size P0_ u9000_ l0) (h : laws_markBoolS.f k l0 a1 = some (r1, r2)) :
  Calls Try.prog 20 #[u9000_, .int .i64 a1] w fun e w' => e = .returned (.int .i64 r1) ∧ Kd.R Kd.bool 4 w' w0.heap.size (fun k_ => (P0_ k_ ∨ w.heap.size ≤ k_)) u9000_ r2 ∧ Below w0.heap.size w0 w' ∧ Kept w w' (fun k_ => P0_ k_) := by
 have HO0 := aM (show Kd.R Kd.bool 4 w w0.heap.size (fun k_ => (P0_ k_ ∨ w.heap.size ≤ k_)) u9000_ l0 from Kd.R_mono ho0 (fun k_ hk => (.inl hk)))
 have HK := aM (Kept.refl w (fun k_ => P0_ k_))
 have HW0 := aM hB.size
 have HB := aM hB
 clear hB
 have H : (laws_markBoolS.l0 k l0 a1 0) = some (r1, r2) := h
 clear h
 have H' := aM H
 clear H
 go_enter Try.func20, Try.ntmps20
 go_wp2
 go_loopg [1, 5] k (fun kq v1 v5 w' => ∃ (x0_1 : List Bool) (x1_1 : Int) (x5_1 : Int), v1 = .int .i64 x1_1 ∧ v5 = .int .i64 x5_1 ∧ Aside0 (laws_markBoolS.l0 kq x0_1 x1_1 x5_1 = some (r1, r2)) ∧ Aside0 (kq ≤ k) ∧ Aside0 (Kd.R Kd.bool 4 w' w0.heap.size (fun k_ => (P0_ k_ ∨ w.heap.size ≤ k_)) u9000_ x0_1) ∧ Aside0 (Kept w w' (fun k_ => P0_ k_)) ∧ Aside0 (Below w0.heap.size w0 w'))
 case atStart => exact ⟨(l0), (a1), (0), (by rfl), (by rfl), H', ⟨Nat.le_refl _⟩, ⟨by exact HO0.out⟩, ⟨by repeat ((with_reducible exact HK.out))⟩, ⟨by repeat ((with_reducible exact HB.out))⟩⟩
 clear H'
 obtain ⟨x0_1, x1_1, x5_1, rfl, rfl, HA, HK1, HO_0, HK, HB⟩ := hrel
 cases gk with
 | zero => exact absurd HA.out (by simp [laws_markBoolS.l0])
 | succ k1 =>
  have H := HA.out
  clear HA
  simp only [laws_markBoolS.l0] at H
  by_cases c3 : x5_1 < (x0_1.length : Int)
  rotate_left
  ·rw [if_neg c3] at H
   have c3b0 : decide (x5_1 < (x0_1.length : Int)) = false := decide_eq_false c3
   clear c3
   simp only [Option.some.injEq, Prod.mk.injEq] at H
   obtain ⟨rfl, rfl⟩ := H
   obtain ⟨Ao9, co9, eo9⟩ := Kd.R_slice HO_0.out
   subst eo9
   go_wp2
   go_ret
   exact ⟨by rfl, by exact HO_0.out, by repeat ((with_reducible exact HB.out)), by repeat ((with_reducible exact HK.out))⟩
  rw [if_pos c3] at H
  have c3b0 : decide (x5_1 < (x0_1.length : Int)) = true := decide_eq_true c3
  clear c3
  by_cases c4 : 0 ≤ x5_1
  rotate_left
  ·rw [if_neg c4] at H
   exact absurd H (by simp)
  rw [if_pos c4] at H
  have c4b0 : decide (0 ≤ x5_1) = true := decide_eq_true c4
  clear c4
  obtain ⟨y238, hy238⟩ : ∃ y_ : List Bool, y_ = (x0_1.set (x5_1 : Int).toNat ((Int.tmod x1_1 3) == 0)) := ⟨_, rfl⟩
  replace H : (laws_markBoolS.l0 k1 y238 (wrap64 (x1_1 + 1)) (wrap64 (x5_1 + 1))) = some (r1, r2) := by (rw [hy238]; with_reducible exact H)
  have Ny238 := aM hy238
  clear hy238
  have H' := aM H
  clear H
  obtain ⟨Ao6, co6, eo6⟩ := Kd.R_slice HO_0.out
  subst eo6
  have p5 : 0 ≤ (x5_1 : Int) := oD ‹_›
  have q5 : (x5_1 : Int) < ((x0_1.length : Int) : Int) := oD ‹_›
  obtain ⟨go5, co5, eo5, gb5, gl5, cl5, HG5⟩ := Kd.R_form HO_0.out (by omega)
  (cases eo5)
  have GB5 := aM gb5
  have GG5 := aM HG5
  clear gb5 gl5 HG5
  have HMgo5 := aM (show (P0_ go5 ∨ w.heap.size ≤ go5) from (HO_0.out.1 _ rfl))
  obtain ⟨hx5_0, hf5_0⟩ := Kd.R_celln false HO_0.out (x5_1 : Int) p5 q5
  replace p5 := eq_true p5
  replace q5 := eq_true q5
  have HP7 := Kd.R_putg HO_0.out (x5_1 : Int) ((Int.tmod x1_1 3) == 0)
  go_wp2_with (((with_reducible refine gate_store (t := 4) (p := 17) rfl ?_); refine store_event (t := 4) (p := 17) (v := ?vo_w8) (w1 := (wr.setCell ⟨go5, (x5_1 : Int).toNat, none⟩ (.bool ((Int.tmod x1_1 3) == 0)))) ?hg ?ho ?hn ?hr ?_; (case ho => rfl); (case hg => rfl); (case hn => rfl); (case hr => (go_simp; done)); intro w8 hw; have hg : wr.grownBy w8 (some go5) := (by rw [hw]; exact HP7.2); have hp_ : Kd.R Kd.bool 4 w8 w0.heap.size (fun k_ => (P0_ k_ ∨ w.heap.size ≤ k_)) (.slice (some ⟨go5, 0, none⟩) x0_1.length co6) y238 := (by rw [hw, Ny238.out]; exact HP7.1); clear HP7; replace HB := aM ((by rw [hw]; exact below_set (HB.out) GB5.out : Below w0.heap.size w0 w8)); replace HK := aM (Kept.of_grown (S := (fun k_ => P0_ k_)) hg HK.out (fun k_ e_ => (HO_0.out.1 k_ e_))); replace HO_0 := aM (hp_); clear hg hw hp_))
  go_roundg k1
  case measure => have := HK1.out; omega
  case rel => exact ⟨(y238), (wrap64 (x1_1 + 1)), (wrap64 (x5_1 + 1)), (by rfl), (by rfl), H', ⟨by have := HK1.out; omega⟩, ⟨by exact HO_0.out⟩, ⟨by repeat ((with_reducible exact HK.out))⟩, ⟨by repeat ((with_reducible exact HB.out))⟩⟩
def laws_markRouteS.l0 : Nat → List (S80) → Int → Int → Option (Int × (List (S80)))
 | 0, _, _, _ => none
 | k + 1, x0, x1, x5 => if x5 < (x0.length : Int) then (if 0 ≤ x5 then ((some (x0.set (x5 : Int).toNat (⟨x1, (rd_T80 x0 x5).f1, (rd_T80 x0 x5).f2, (rd_T80 x0 x5).f3⟩ : S80) : List (S80))).bind fun y239 => ((some (y239.set (x5 : Int).toNat (⟨(rd_T80 y239 x5).f0, wrap64 (x1 + 1), (rd_T80 y239 x5).f2, (rd_T80 y239 x5).f3⟩ : S80) : List (S80))).bind fun y240 => ((some (y240.set (x5 : Int).toNat (⟨(rd_T80 y240 x5).f0, (rd_T80 y240 x5).f1, wrap64 ((wrap64 (x1 + 1)) + 1), (rd_T80 y240 x5).f3⟩ : S80) : List (S80))).bind fun y241 => (laws_markRouteS.l0 k (y241.set (x5 : Int).toNat (⟨(rd_T80 y241 x5).f0, (rd_T80 y241 x5).f1, (rd_T80 y241 x5).f2, ((Int.tmod (wrap64 ((wrap64 ((wrap64 (x1 + 1)) + 1)) + 1)) 3) == 0)⟩ : S80)) (wrap64 ((wrap64 ((wrap64 ((wrap64 (x1 + 1)) + 1)) + 1)) + 1)) (wrap64 (x5 + 1)))))) else (none)) else (some (x1, x0))
def laws_markRouteS.f (k : Nat) (l0 : List (S80)) (a1 : Int) : Option (Int × (List (S80))) := laws_markRouteS.l0 k l0 a1 0
theorem laws_markRouteS.calls (k : Nat) (P0_ : Nat → Prop) (u9000_ : Value) (l0 : List (S80)) (a1 : Int) (r1 : Int) (r2 : List (S80)) (w0 w : World) (hB : Below w0.heap.size w0 w) (ho0 : Kd.R k80 80 w w0.heap.size P0_ u9000_ l0) (h : laws_markRouteS.f k l0 a1 = some (r1, r2)) :
  Calls Try.prog 21 #[u9000_, .int .i64 a1] w fun e w' => e = .returned (.int .i64 r1) ∧ Kd.R k80 80 w' w0.heap.size (fun k_ => (P0_ k_ ∨ w.heap.size ≤ k_)) u9000_ r2 ∧ Below w0.heap.size w0 w' ∧ Kept w w' (fun k_ => P0_ k_) := by
 have HO0 := aM (show Kd.R k80 80 w w0.heap.size (fun k_ => (P0_ k_ ∨ w.heap.size ≤ k_)) u9000_ l0 from Kd.R_mono ho0 (fun k_ hk => (.inl hk)))
 have HK := aM (Kept.refl w (fun k_ => P0_ k_))
 have HW0 := aM hB.size
 have HB := aM hB
 clear hB
 have H : (laws_markRouteS.l0 k l0 a1 0) = some (r1, r2) := h
 clear h
 have H' := aM H
 clear H
 go_enter Try.func21, Try.ntmps21
 go_wp2
 go_loopg [1, 5] k (fun kq v1 v5 w' => ∃ (x0_1 : List (S80)) (x1_1 : Int) (x5_1 : Int), v1 = .int .i64 x1_1 ∧ v5 = .int .i64 x5_1 ∧ Aside0 (laws_markRouteS.l0 kq x0_1 x1_1 x5_1 = some (r1, r2)) ∧ Aside0 (kq ≤ k) ∧ Aside0 (Kd.R k80 80 w' w0.heap.size (fun k_ => (P0_ k_ ∨ w.heap.size ≤ k_)) u9000_ x0_1) ∧ Aside0 (Kept w w' (fun k_ => P0_ k_)) ∧ Aside0 (Below w0.heap.size w0 w'))
 case atStart => exact ⟨(l0), (a1), (0), (by rfl), (by rfl), H', ⟨Nat.le_refl _⟩, ⟨by exact HO0.out⟩, ⟨by repeat ((with_reducible exact HK.out))⟩, ⟨by repeat ((with_reducible exact HB.out))⟩⟩
 clear H'
 obtain ⟨x0_1, x1_1, x5_1, rfl, rfl, HA, HK1, HO_0, HK, HB⟩ := hrel
 cases gk with
 | zero => exact absurd HA.out (by simp [laws_markRouteS.l0])
 | succ k1 =>
  have H := HA.out
  clear HA
  simp only [laws_markRouteS.l0] at H
  by_cases c3 : x5_1 < (x0_1.length : Int)
  rotate_left
  ·rw [if_neg c3] at H
   have c3b0 : decide (x5_1 < (x0_1.length : Int)) = false := decide_eq_false c3
   clear c3
   simp only [Option.some.injEq, Prod.mk.injEq] at H
   obtain ⟨rfl, rfl⟩ := H
   obtain ⟨Ao18, co18, eo18⟩ := Kd.R_slice HO_0.out
   subst eo18
   go_wp2
   go_ret
   exact ⟨by rfl, by exact HO_0.out, by repeat ((with_reducible exact HB.out)), by repeat ((with_reducible exact HK.out))⟩
  rw [if_pos c3] at H
  have c3b0 : decide (x5_1 < (x0_1.length : Int)) = true := decide_eq_true c3
  clear c3
  by_cases c4 : 0 ≤ x5_1
  rotate_left
  ·rw [if_neg c4] at H
   exact absurd H (by simp)
  rw [if_pos c4] at H
  have c4b0 : decide (0 ≤ x5_1) = true := decide_eq_true c4
  clear c4
  obtain ⟨y239, hy239⟩ : ∃ y_ : List (S80), y_ = (x0_1.set (x5_1 : Int).toNat (⟨x1_1, (rd_T80 x0_1 x5_1).f1, (rd_T80 x0_1 x5_1).f2, (rd_T80 x0_1 x5_1).f3⟩ : S80)) := ⟨_, rfl⟩
  replace H : ((some (y239.set (x5_1 : Int).toNat (⟨(rd_T80 y239 x5_1).f0, wrap64 (x1_1 + 1), (rd_T80 y239 x5_1).f2, (rd_T80 y239 x5_1).f3⟩ : S80) : List (S80))).bind fun y240 => ((some (y240.set (x5_1 : Int).toNat (⟨(rd_T80 y240 x5_1).f0, (rd_T80 y240 x5_1).f1, wrap64 ((wrap64 (x1_1 + 1)) + 1), (rd_T80 y240 x5_1).f3⟩ : S80) : List (S80))).bind fun y241 => (laws_markRouteS.l0 k1 (y241.set (x5_1 : Int).toNat (⟨(rd_T80 y241 x5_1).f0, (rd_T80 y241 x5_1).f1, (rd_T80 y241 x5_1).f2, ((Int.tmod (wrap64 ((wrap64 ((wrap64 (x1_1 + 1)) + 1)) + 1)) 3) == 0)⟩ : S80)) (wrap64 ((wrap64 ((wrap64 ((wrap64 (x1_1 + 1)) + 1)) + 1)) + 1)) (wrap64 (x5_1 + 1))))) = some (r1, r2) := by (have H2_ := (Option.bind_some _ _).symm.trans H; rw [hy239]; with_reducible exact H2_)
  have Ny239 := aM hy239
  clear hy239
  obtain ⟨y240, hy240⟩ : ∃ y_ : List (S80), y_ = (y239.set (x5_1 : Int).toNat (⟨(rd_T80 y239 x5_1).f0, wrap64 (x1_1 + 1), (rd_T80 y239 x5_1).f2, (rd_T80 y239 x5_1).f3⟩ : S80)) := ⟨_, rfl⟩
  replace H : ((some (y240.set (x5_1 : Int).toNat (⟨(rd_T80 y240 x5_1).f0, (rd_T80 y240 x5_1).f1, wrap64 ((wrap64 (x1_1 + 1)) + 1), (rd_T80 y240 x5_1).f3⟩ : S80) : List (S80))).bind fun y241 => (laws_markRouteS.l0 k1 (y241.set (x5_1 : Int).toNat (⟨(rd_T80 y241 x5_1).f0, (rd_T80 y241 x5_1).f1, (rd_T80 y241 x5_1).f2, ((Int.tmod (wrap64 ((wrap64 ((wrap64 (x1_1 + 1)) + 1)) + 1)) 3) == 0)⟩ : S80)) (wrap64 ((wrap64 ((wrap64 ((wrap64 (x1_1 + 1)) + 1)) + 1)) + 1)) (wrap64 (x5_1 + 1)))) = some (r1, r2) := by (have H2_ := (Option.bind_some _ _).symm.trans H; rw [hy240]; with_reducible exact H2_)
  have Ny240 := aM hy240
  clear hy240
  obtain ⟨y241, hy241⟩ : ∃ y_ : List (S80), y_ = (y240.set (x5_1 : Int).toNat (⟨(rd_T80 y240 x5_1).f0, (rd_T80 y240 x5_1).f1, wrap64 ((wrap64 (x1_1 + 1)) + 1), (rd_T80 y240 x5_1).f3⟩ : S80)) := ⟨_, rfl⟩
  replace H : (laws_markRouteS.l0 k1 (y241.set (x5_1 : Int).toNat (⟨(rd_T80 y241 x5_1).f0, (rd_T80 y241 x5_1).f1, (rd_T80 y241 x5_1).f2, ((Int.tmod (wrap64 ((wrap64 ((wrap64 (x1_1 + 1)) + 1)) + 1)) 3) == 0)⟩ : S80)) (wrap64 ((wrap64 ((wrap64 ((wrap64 (x1_1 + 1)) + 1)) + 1)) + 1)) (wrap64 (x5_1 + 1))) = some (r1, r2) := by (have H2_ := (Option.bind_some _ _).symm.trans H; rw [hy241]; with_reducible exact H2_)
  have Ny241 := aM hy241
  clear hy241
  obtain ⟨y242, hy242⟩ : ∃ y_ : List (S80), y_ = (y241.set (x5_1 : Int).toNat (⟨(rd_T80 y241 x5_1).f0, (rd_T80 y241 x5_1).f1, (rd_T80 y241 x5_1).f2, ((Int.tmod (wrap64 ((wrap64 ((wrap64 (x1_1 + 1)) + 1)) + 1)) 3) == 0)⟩ : S80)) := ⟨_, rfl⟩
  replace H : (laws_markRouteS.l0 k1 y242 (wrap64 ((wrap64 ((wrap64 ((wrap64 (x1_1 + 1)) + 1)) + 1)) + 1)) (wrap64 (x5_1 + 1))) = some (r1, r2) := by (rw [hy242]; with_reducible exact H)
  have Ny242 := aM hy242
  clear hy242
  have H' := aM H
  clear H
  obtain ⟨Ao9, co9, eo9⟩ := Kd.R_slice HO_0.out
  subst eo9
  have p5 : 0 ≤ (x5_1 : Int) := oD ‹_›
  have q5 : (x5_1 : Int) < ((x0_1.length : Int) : Int) := oD ‹_›
  obtain ⟨go5, co5, eo5, gb5, gl5, cl5, HG5⟩ := Kd.R_form HO_0.out (by omega)
  (cases eo5)
  have GB5 := aM gb5
  have GG5 := aM HG5
  clear gb5 gl5 HG5
  have HMgo5 := aM (show (P0_ go5 ∨ w.heap.size ≤ go5) from (HO_0.out.1 _ rfl))
  obtain ⟨ce5, hcl5, hM5, hcc5, hfr5⟩ := Kd.R_elem HO_0.out z80 (x5_1 : Int) p5 q5
  obtain rfl := k80_openM hM5
  have hx5_0 : wr.cell? ⟨go5, (x5_1 : Int).toNat * 4, none⟩ = some (.int .i64 ((rd_T80 x0_1 x5_1).f0)) := hcc5 0 _ rfl
  have hx5_1 : wr.cell? ⟨go5, (x5_1 : Int).toNat * 4 + 1, none⟩ = some (.int .i64 ((rd_T80 x0_1 x5_1).f1)) := hcc5 1 _ rfl
  have hx5_2 : wr.cell? ⟨go5, (x5_1 : Int).toNat * 4 + 2, none⟩ = some (.int .i64 ((rd_T80 x0_1 x5_1).f2)) := hcc5 2 _ rfl
  have hx5_3 : wr.cell? ⟨go5, (x5_1 : Int).toNat * 4 + 3, none⟩ = some (.bool ((rd_T80 x0_1 x5_1).f3)) := hcc5 3 _ rfl
  have hf5_0 : wr.frozen? ⟨go5, (x5_1 : Int).toNat * 4, none⟩ = false := hfr5 0
  have hf5_1 : wr.frozen? ⟨go5, (x5_1 : Int).toNat * 4 + 1, none⟩ = false := hfr5 1
  have hf5_2 : wr.frozen? ⟨go5, (x5_1 : Int).toNat * 4 + 2, none⟩ = false := hfr5 2
  have hf5_3 : wr.frozen? ⟨go5, (x5_1 : Int).toNat * 4 + 3, none⟩ = false := hfr5 3
  clear hcl5 hcc5 hfr5; (try clear hM5)
  replace p5 := eq_true p5
  replace q5 := eq_true q5
  have HX10 := aM (show Kd.R k80 80 wr w0.heap.size (fun k_ => (P0_ k_ ∨ w.heap.size ≤ k_)) (.slice (some ⟨go5, 0, none⟩) x0_1.length co9) x0_1 from HO_0.out)
  obtain ⟨ce10, hcl10, hM10, hcc10, hfr10⟩ := Kd.R_elem HX10.out z80 (x5_1 : Int) (oD ‹_›) (by have h_ : (x5_1 : Int) < ((x0_1.length : Int) : Int) := oD ‹_›; exact h_)
  obtain rfl := k80_openM hM10
  have HP10 := Kd.R_seg HX10.out (x5_1 : Int) (oD ‹_›) (by have h_ : (x5_1 : Int) < ((x0_1.length : Int) : Int) := oD ‹_›; exact h_) (seg := [.int .i64 x1_1]) (j := 0) hcl10 hcc10 (show 1 ≤ 4 from by decide) (x' := (⟨x1_1, (rd_T80 x0_1 x5_1).f1, (rd_T80 x0_1 x5_1).f2, (rd_T80 x0_1 x5_1).f3⟩ : S80)) (k80_mkM _ _ _ (⟨x1_1, (rd_T80 x0_1 x5_1).f1, (rd_T80 x0_1 x5_1).f2, (rd_T80 x0_1 x5_1).f3⟩ : S80) ) (fun _ hk => hk)
  have hx10_0 := hcc10 0 _ rfl
  (try simp only [show (k80).sz = 4 from rfl, Nat.mul_one, Nat.add_zero] at hx10_0)
  have hf10_0 := hfr10 0
  (try simp only [show (k80).sz = 4 from rfl, Nat.mul_one, Nat.add_zero] at hf10_0)
  clear hcl10 hcc10 hfr10; (try clear hM10)
  go_wp2_with (first | ((with_reducible refine gate_store (t := 3) (p := 16) rfl ?_); refine store_event (t := 3) (p := 16) (v := ?vo_w11) (w1 := (wr.setCell ⟨go5, (x5_1 : Int).toNat * 4, none⟩ (.int .i64 x1_1))) ?hg ?ho ?hn ?hr ?_; (case ho => rfl); (case hg => rfl); (case hn => rfl); (case hr => (go_simp; done)); intro w11 hw; have hg : wr.grownBy w11 (some go5) := (by rw [hw]; exact HP10.2); have hp_ : Kd.R k80 80 w11 w0.heap.size (fun k_ => (P0_ k_ ∨ w.heap.size ≤ k_)) (.slice (some ⟨go5, 0, none⟩) x0_1.length co9) y239 := (by rw [hw, Ny239.out]; exact HP10.1); clear HP10; replace HB := aM ((by rw [hw]; exact below_set (HB.out) GB5.out : Below w0.heap.size w0 w11)); replace HK := aM (Kept.of_grown (S := (fun k_ => P0_ k_)) hg HK.out (fun k_ e_ => (HO_0.out.1 k_ e_))); replace HO_0 := aM (hp_); clear hg hw hp_; have p6 : 0 ≤ (x5_1 : Int) := oD ‹_›; have q6 : (x5_1 : Int) < ((x0_1.length : Int) : Int) := oD ‹_›; obtain ⟨ce6, hcl6, hM6, hcc6, hfr6⟩ := Kd.R_elem HO_0.out z80 (x5_1 : Int) p6 q6; obtain rfl := k80_openM hM6; have hx6_0 : w11.cell? ⟨go5, (x5_1 : Int).toNat * 4, none⟩ = some (.int .i64 ((rd_T80 y239 x5_1).f0)) := hcc6 0 _ rfl; have hx6_1 : w11.cell? ⟨go5, (x5_1 : Int).toNat * 4 + 1, none⟩ = some (.int .i64 ((rd_T80 y239 x5_1).f1)) := hcc6 1 _ rfl; have hx6_2 : w11.cell? ⟨go5, (x5_1 : Int).toNat * 4 + 2, none⟩ = some (.int .i64 ((rd_T80 y239 x5_1).f2)) := hcc6 2 _ rfl; have hx6_3 : w11.cell? ⟨go5, (x5_1 : Int).toNat * 4 + 3, none⟩ = some (.bool ((rd_T80 y239 x5_1).f3)) := hcc6 3 _ rfl; have hf6_0 : w11.frozen? ⟨go5, (x5_1 : Int).toNat * 4, none⟩ = false := hfr6 0; have hf6_1 : w11.frozen? ⟨go5, (x5_1 : Int).toNat * 4 + 1, none⟩ = false := hfr6 1; have hf6_2 : w11.frozen? ⟨go5, (x5_1 : Int).toNat * 4 + 2, none⟩ = false := hfr6 2; have hf6_3 : w11.frozen? ⟨go5, (x5_1 : Int).toNat * 4 + 3, none⟩ = false := hfr6 3; clear hcl6 hcc6 hfr6; (try clear hM6); replace p6 := eq_true p6; replace q6 := eq_true q6; have HX12 := aM (show Kd.R k80 80 w11 w0.heap.size (fun k_ => (P0_ k_ ∨ w.heap.size ≤ k_)) (.slice (some ⟨go5, 0, none⟩) x0_1.length co9) y239 from HO_0.out); obtain ⟨ce12, hcl12, hM12, hcc12, hfr12⟩ := Kd.R_elem HX12.out z80 (x5_1 : Int) (oD ‹_›) (by have h_ : (x5_1 : Int) < ((x0_1.length : Int) : Int) := oD ‹_›; exact h_); obtain rfl := k80_openM hM12; have HP12 := Kd.R_seg HX12.out (x5_1 : Int) (oD ‹_›) (by have h_ : (x5_1 : Int) < ((x0_1.length : Int) : Int) := oD ‹_›; exact h_) (seg := [.int .i64 (wrap64 (x1_1 + 1))]) (j := 1) hcl12 hcc12 (show 2 ≤ 4 from by decide) (x' := (⟨(rd_T80 y239 x5_1).f0, wrap64 (x1_1 + 1), (rd_T80 y239 x5_1).f2, (rd_T80 y239 x5_1).f3⟩ : S80)) (k80_mkM _ _ _ (⟨(rd_T80 y239 x5_1).f0, wrap64 (x1_1 + 1), (rd_T80 y239 x5_1).f2, (rd_T80 y239 x5_1).f3⟩ : S80) ) (fun _ hk => hk); have hx12_1 := hcc12 1 _ rfl; (try simp only [show (k80).sz = 4 from rfl, Nat.mul_one, Nat.add_zero] at hx12_1); have hf12_1 := hfr12 1; (try simp only [show (k80).sz = 4 from rfl, Nat.mul_one, Nat.add_zero] at hf12_1); clear hcl12 hcc12 hfr12; (try clear hM12)) | ((with_reducible refine gate_store (t := 3) (p := 23) rfl ?_); refine store_event (t := 3) (p := 23) (v := ?vo_w13) (w1 := (w11.setCell ⟨go5, (x5_1 : Int).toNat * 4 + 1, none⟩ (.int .i64 (wrap64 (x1_1 + 1))))) ?hg ?ho ?hn ?hr ?_; (case ho => rfl); (case hg => rfl); (case hn => rfl); (case hr => (go_simp; done)); intro w13 hw; have hg : w11.grownBy w13 (some go5) := (by rw [hw]; exact HP12.2); have hp_ : Kd.R k80 80 w13 w0.heap.size (fun k_ => (P0_ k_ ∨ w.heap.size ≤ k_)) (.slice (some ⟨go5, 0, none⟩) x0_1.length co9) y240 := (by rw [hw, Ny240.out]; exact HP12.1); clear HP12; replace HB := aM ((by rw [hw]; exact below_set (HB.out) GB5.out : Below w0.heap.size w0 w13)); replace HK := aM (Kept.of_grown (S := (fun k_ => P0_ k_)) hg HK.out (fun k_ e_ => (HO_0.out.1 k_ e_))); replace HO_0 := aM (hp_); clear hg hw hp_; have p7 : 0 ≤ (x5_1 : Int) := oD ‹_›; have q7 : (x5_1 : Int) < ((x0_1.length : Int) : Int) := oD ‹_›; obtain ⟨ce7, hcl7, hM7, hcc7, hfr7⟩ := Kd.R_elem HO_0.out z80 (x5_1 : Int) p7 q7; obtain rfl := k80_openM hM7; have hx7_0 : w13.cell? ⟨go5, (x5_1 : Int).toNat * 4, none⟩ = some (.int .i64 ((rd_T80 y240 x5_1).f0)) := hcc7 0 _ rfl; have hx7_1 : w13.cell? ⟨go5, (x5_1 : Int).toNat * 4 + 1, none⟩ = some (.int .i64 ((rd_T80 y240 x5_1).f1)) := hcc7 1 _ rfl; have hx7_2 : w13.cell? ⟨go5, (x5_1 : Int).toNat * 4 + 2, none⟩ = some (.int .i64 ((rd_T80 y240 x5_1).f2)) := hcc7 2 _ rfl; have hx7_3 : w13.cell? ⟨go5, (x5_1 : Int).toNat * 4 + 3, none⟩ = some (.bool ((rd_T80 y240 x5_1).f3)) := hcc7 3 _ rfl; have hf7_0 : w13.frozen? ⟨go5, (x5_1 : Int).toNat * 4, none⟩ = false := hfr7 0; have hf7_1 : w13.frozen? ⟨go5, (x5_1 : Int).toNat * 4 + 1, none⟩ = false := hfr7 1; have hf7_2 : w13.frozen? ⟨go5, (x5_1 : Int).toNat * 4 + 2, none⟩ = false := hfr7 2; have hf7_3 : w13.frozen? ⟨go5, (x5_1 : Int).toNat * 4 + 3, none⟩ = false := hfr7 3; clear hcl7 hcc7 hfr7; (try clear hM7); replace p7 := eq_true p7; replace q7 := eq_true q7; have HX14 := aM (show Kd.R k80 80 w13 w0.heap.size (fun k_ => (P0_ k_ ∨ w.heap.size ≤ k_)) (.slice (some ⟨go5, 0, none⟩) x0_1.length co9) y240 from HO_0.out); obtain ⟨ce14, hcl14, hM14, hcc14, hfr14⟩ := Kd.R_elem HX14.out z80 (x5_1 : Int) (oD ‹_›) (by have h_ : (x5_1 : Int) < ((x0_1.length : Int) : Int) := oD ‹_›; exact h_); obtain rfl := k80_openM hM14; have HP14 := Kd.R_seg HX14.out (x5_1 : Int) (oD ‹_›) (by have h_ : (x5_1 : Int) < ((x0_1.length : Int) : Int) := oD ‹_›; exact h_) (seg := [.int .i64 (wrap64 ((wrap64 (x1_1 + 1)) + 1))]) (j := 2) hcl14 hcc14 (show 3 ≤ 4 from by decide) (x' := (⟨(rd_T80 y240 x5_1).f0, (rd_T80 y240 x5_1).f1, wrap64 ((wrap64 (x1_1 + 1)) + 1), (rd_T80 y240 x5_1).f3⟩ : S80)) (k80_mkM _ _ _ (⟨(rd_T80 y240 x5_1).f0, (rd_T80 y240 x5_1).f1, wrap64 ((wrap64 (x1_1 + 1)) + 1), (rd_T80 y240 x5_1).f3⟩ : S80) ) (fun _ hk => hk); have hx14_2 := hcc14 2 _ rfl; (try simp only [show (k80).sz = 4 from rfl, Nat.mul_one, Nat.add_zero] at hx14_2); have hf14_2 := hfr14 2; (try simp only [show (k80).sz = 4 from rfl, Nat.mul_one, Nat.add_zero] at hf14_2); clear hcl14 hcc14 hfr14; (try clear hM14)) | ((with_reducible refine gate_store (t := 3) (p := 30) rfl ?_); refine store_event (t := 3) (p := 30) (v := ?vo_w15) (w1 := (w13.setCell ⟨go5, (x5_1 : Int).toNat * 4 + 2, none⟩ (.int .i64 (wrap64 ((wrap64 (x1_1 + 1)) + 1))))) ?hg ?ho ?hn ?hr ?_; (case ho => rfl); (case hg => rfl); (case hn => rfl); (case hr => (go_simp; done)); intro w15 hw; have hg : w13.grownBy w15 (some go5) := (by rw [hw]; exact HP14.2); have hp_ : Kd.R k80 80 w15 w0.heap.size (fun k_ => (P0_ k_ ∨ w.heap.size ≤ k_)) (.slice (some ⟨go5, 0, none⟩) x0_1.length co9) y241 := (by rw [hw, Ny241.out]; exact HP14.1); clear HP14; replace HB := aM ((by rw [hw]; exact below_set (HB.out) GB5.out : Below w0.heap.size w0 w15)); replace HK := aM (Kept.of_grown (S := (fun k_ => P0_ k_)) hg HK.out (fun k_ e_ => (HO_0.out.1 k_ e_))); replace HO_0 := aM (hp_); clear hg hw hp_; have p8 : 0 ≤ (x5_1 : Int) := oD ‹_›; have q8 : (x5_1 : Int) < ((x0_1.length : Int) : Int) := oD ‹_›; obtain ⟨ce8, hcl8, hM8, hcc8, hfr8⟩ := Kd.R_elem HO_0.out z80 (x5_1 : Int) p8 q8; obtain rfl := k80_openM hM8; have hx8_0 : w15.cell? ⟨go5, (x5_1 : Int).toNat * 4, none⟩ = some (.int .i64 ((rd_T80 y241 x5_1).f0)) := hcc8 0 _ rfl; have hx8_1 : w15.cell? ⟨go5, (x5_1 : Int).toNat * 4 + 1, none⟩ = some (.int .i64 ((rd_T80 y241 x5_1).f1)) := hcc8 1 _ rfl; have hx8_2 : w15.cell? ⟨go5, (x5_1 : Int).toNat * 4 + 2, none⟩ = some (.int .i64 ((rd_T80 y241 x5_1).f2)) := hcc8 2 _ rfl; have hx8_3 : w15.cell? ⟨go5, (x5_1 : Int).toNat * 4 + 3, none⟩ = some (.bool ((rd_T80 y241 x5_1).f3)) := hcc8 3 _ rfl; have hf8_0 : w15.frozen? ⟨go5, (x5_1 : Int).toNat * 4, none⟩ = false := hfr8 0; have hf8_1 : w15.frozen? ⟨go5, (x5_1 : Int).toNat * 4 + 1, none⟩ = false := hfr8 1; have hf8_2 : w15.frozen? ⟨go5, (x5_1 : Int).toNat * 4 + 2, none⟩ = false := hfr8 2; have hf8_3 : w15.frozen? ⟨go5, (x5_1 : Int).toNat * 4 + 3, none⟩ = false := hfr8 3; clear hcl8 hcc8 hfr8; (try clear hM8); replace p8 := eq_true p8; replace q8 := eq_true q8; have HX16 := aM (show Kd.R k80 80 w15 w0.heap.size (fun k_ => (P0_ k_ ∨ w.heap.size ≤ k_)) (.slice (some ⟨go5, 0, none⟩) x0_1.length co9) y241 from HO_0.out); obtain ⟨ce16, hcl16, hM16, hcc16, hfr16⟩ := Kd.R_elem HX16.out z80 (x5_1 : Int) (oD ‹_›) (by have h_ : (x5_1 : Int) < ((x0_1.length : Int) : Int) := oD ‹_›; exact h_); obtain rfl := k80_openM hM16; have HP16 := Kd.R_seg HX16.out (x5_1 : Int) (oD ‹_›) (by have h_ : (x5_1 : Int) < ((x0_1.length : Int) : Int) := oD ‹_›; exact h_) (seg := [.bool ((Int.tmod (wrap64 ((wrap64 ((wrap64 (x1_1 + 1)) + 1)) + 1)) 3) == 0)]) (j := 3) hcl16 hcc16 (show 4 ≤ 4 from by decide) (x' := (⟨(rd_T80 y241 x5_1).f0, (rd_T80 y241 x5_1).f1, (rd_T80 y241 x5_1).f2, ((Int.tmod (wrap64 ((wrap64 ((wrap64 (x1_1 + 1)) + 1)) + 1)) 3) == 0)⟩ : S80)) (k80_mkM _ _ _ (⟨(rd_T80 y241 x5_1).f0, (rd_T80 y241 x5_1).f1, (rd_T80 y241 x5_1).f2, ((Int.tmod (wrap64 ((wrap64 ((wrap64 (x1_1 + 1)) + 1)) + 1)) 3) == 0)⟩ : S80) ) (fun _ hk => hk); have hx16_3 := hcc16 3 _ rfl; (try simp only [show (k80).sz = 4 from rfl, Nat.mul_one, Nat.add_zero] at hx16_3); have hf16_3 := hfr16 3; (try simp only [show (k80).sz = 4 from rfl, Nat.mul_one, Nat.add_zero] at hf16_3); clear hcl16 hcc16 hfr16; (try clear hM16)) | ((with_reducible refine gate_store (t := 4) (p := 39) rfl ?_); refine store_event (t := 4) (p := 39) (v := ?vo_w17) (w1 := (w15.setCell ⟨go5, (x5_1 : Int).toNat * 4 + 3, none⟩ (.bool ((Int.tmod (wrap64 ((wrap64 ((wrap64 (x1_1 + 1)) + 1)) + 1)) 3) == 0)))) ?hg ?ho ?hn ?hr ?_; (case ho => rfl); (case hg => rfl); (case hn => rfl); (case hr => (go_simp; done)); intro w17 hw; have hg : w15.grownBy w17 (some go5) := (by rw [hw]; exact HP16.2); have hp_ : Kd.R k80 80 w17 w0.heap.size (fun k_ => (P0_ k_ ∨ w.heap.size ≤ k_)) (.slice (some ⟨go5, 0, none⟩) x0_1.length co9) y242 := (by rw [hw, Ny242.out]; exact HP16.1); clear HP16; replace HB := aM ((by rw [hw]; exact below_set (HB.out) GB5.out : Below w0.heap.size w0 w17)); replace HK := aM (Kept.of_grown (S := (fun k_ => P0_ k_)) hg HK.out (fun k_ e_ => (HO_0.out.1 k_ e_))); replace HO_0 := aM (hp_); clear hg hw hp_))
  go_roundg k1
  case measure => have := HK1.out; omega
  case rel => exact ⟨(y242), (wrap64 ((wrap64 ((wrap64 ((wrap64 (x1_1 + 1)) + 1)) + 1)) + 1)), (wrap64 (x5_1 + 1)), (by rfl), (by rfl), H', ⟨by have := HK1.out; omega⟩, ⟨by exact HO_0.out⟩, ⟨by repeat ((with_reducible exact HK.out))⟩, ⟨by repeat ((with_reducible exact HB.out))⟩⟩
def laws_heldRouteS.l0 : Nat → List (S80) → Int → Int → Option (Int)
 | 0, _, _, _ => none
 | k + 1, x0, x1, x5 => if x5 < (x0.length : Int) then (if 0 ≤ x5 then (if ((rd_T80 x0 x5).f0) = x1 then (if ((rd_T80 x0 x5).f1) = (wrap64 (x1 + 1)) then (if ((rd_T80 x0 x5).f2) = (wrap64 ((wrap64 (x1 + 1)) + 1)) then (if (((rd_T80 x0 x5).f3) != ((Int.tmod (wrap64 ((wrap64 ((wrap64 (x1 + 1)) + 1)) + 1)) 3) == 0)) = true then (some (-1)) else (laws_heldRouteS.l0 k x0 (wrap64 ((wrap64 ((wrap64 ((wrap64 (x1 + 1)) + 1)) + 1)) + 1)) (wrap64 (x5 + 1)))) else (some (-1))) else (some (-1))) else (some (-1))) else (none)) else (some x1)
def laws_heldRouteS.f (k : Nat) (l0 : List (S80)) (a1 : Int) : Option (Int) := laws_heldRouteS.l0 k l0 a1 0
theorem laws_heldRouteS.calls (k : Nat) (A0 : Option Addr) (c0 : Nat) (l0 : List (S80)) (a1 : Int) (r : Int) (w : World) (hr0 : Kd.C k80 w A0 l0.length l0) (hc0 : l0.length ≤ c0) (h : laws_heldRouteS.f k l0 a1 = some r) :
  Calls Try.prog 22 #[.slice A0 l0.length c0, .int .i64 a1] w fun e w' => e = .returned (.int .i64 r) ∧ Drawn0 w w' := by
 have HR0 := aM hr0
 have HC0 := aM hc0
 clear hr0 hc0
 have H : (laws_heldRouteS.l0 k l0 a1 0) = some r := h
 clear h
 have H' := aM H
 clear H
 go_enter Try.func22, Try.ntmps22
 go_wp2
 go_loopg [1, 5] k (fun kq v1 v5 w' => ∃ (x1_1 : Int) (x5_1 : Int), v1 = .int .i64 x1_1 ∧ v5 = .int .i64 x5_1 ∧ Aside0 (laws_heldRouteS.l0 kq l0 x1_1 x5_1 = some r) ∧ Aside0 (kq ≤ k) ∧ Drawn0 w w')
 case atStart => exact ⟨(a1), (0), (by rfl), (by rfl), H', ⟨Nat.le_refl _⟩, by repeat (exact Drawn0.refl _)⟩
 clear H'
 obtain ⟨x1_1, x5_1, rfl, rfl, HA, HK1, ⟨m1, rfl⟩⟩ := hrel
 cases gk with
 | zero => exact absurd HA.out (by simp [laws_heldRouteS.l0])
 | succ k1 =>
  have H := HA.out
  clear HA
  simp only [laws_heldRouteS.l0] at H
  by_cases c3 : x5_1 < (l0.length : Int)
  rotate_left
  ·rw [if_neg c3] at H
   have c3b0 : decide (x5_1 < (l0.length : Int)) = false := decide_eq_false c3
   clear c3
   obtain rfl := Option.some.inj H
   go_wp2
   go_ret
   exact ⟨by rfl, by repeat (first | exact Drawn0.refl _ | apply Drawn0.step)⟩
  rw [if_pos c3] at H
  have c3b0 : decide (x5_1 < (l0.length : Int)) = true := decide_eq_true c3
  clear c3
  by_cases c4 : 0 ≤ x5_1
  rotate_left
  ·rw [if_neg c4] at H
   exact absurd H (by simp)
  rw [if_pos c4] at H
  have c4b0 : decide (0 ≤ x5_1) = true := decide_eq_true c4
  clear c4
  by_cases c5 : ((rd_T80 l0 x5_1).f0) = x1_1
  rotate_left
  ·rw [if_neg c5] at H
   have c5b0 : (((rd_T80 l0 x5_1).f0) == x1_1) = false := beq_eq_false_iff_ne.mpr c5
   have c5b1 : (((rd_T80 l0 x5_1).f0) != x1_1) = true := bne_iff_ne.mpr c5
   obtain rfl := Option.some.inj H
   have p243 : 0 ≤ (x5_1 : Int) := oD ‹_›
   have q243 : x5_1 < (l0.length : Int) := oD ‹_›
   obtain ⟨ad243, e243, hx243_0, hx243_1, hx243_2, hx243_3⟩ := at_T80 HR0.out x5_1 p243 q243
   cases e243
   replace p243 := eq_true p243
   replace q243 := eq_true q243
   go_wp2
   go_ret
   exact ⟨by rfl, by repeat (first | exact Drawn0.refl _ | apply Drawn0.step)⟩
  rw [if_pos c5] at H
  have c5b0 : (((rd_T80 l0 x5_1).f0) == x1_1) = true := beq_iff_eq.mpr c5
  have c5b1 : (((rd_T80 l0 x5_1).f0) != x1_1) = false := bne_eq_false_iff_eq.mpr c5
  clear c5
  by_cases c6 : ((rd_T80 l0 x5_1).f1) = (wrap64 (x1_1 + 1))
  rotate_left
  ·rw [if_neg c6] at H
   have c6b0 : (((rd_T80 l0 x5_1).f1) == (wrap64 (x1_1 + 1))) = false := beq_eq_false_iff_ne.mpr c6
   have c6b1 : (((rd_T80 l0 x5_1).f1) != (wrap64 (x1_1 + 1))) = true := bne_iff_ne.mpr c6
   obtain rfl := Option.some.inj H
   have p243 : 0 ≤ (x5_1 : Int) := oD ‹_›
   have q243 : x5_1 < (l0.length : Int) := oD ‹_›
   obtain ⟨ad243, e243, hx243_0, hx243_1, hx243_2, hx243_3⟩ := at_T80 HR0.out x5_1 p243 q243
   cases e243
   replace p243 := eq_true p243
   replace q243 := eq_true q243
   have p244 : 0 ≤ (x5_1 : Int) := oD ‹_›
   have q244 : x5_1 < (l0.length : Int) := oD ‹_›
   obtain ⟨ad244, e244, hx244_0, hx244_1, hx244_2, hx244_3⟩ := at_T80 HR0.out x5_1 p244 q244
   obtain rfl : ad243 = ad244 := (by injection e244)
   replace p244 := eq_true p244
   replace q244 := eq_true q244
   go_wp2
   go_ret
   exact ⟨by rfl, by repeat (first | exact Drawn0.refl _ | apply Drawn0.step)⟩
  rw [if_pos c6] at H
  have c6b0 : (((rd_T80 l0 x5_1).f1) == (wrap64 (x1_1 + 1))) = true := beq_iff_eq.mpr c6
  have c6b1 : (((rd_T80 l0 x5_1).f1) != (wrap64 (x1_1 + 1))) = false := bne_eq_false_iff_eq.mpr c6
  clear c6
  by_cases c7 : ((rd_T80 l0 x5_1).f2) = (wrap64 ((wrap64 (x1_1 + 1)) + 1))
  rotate_left
  ·rw [if_neg c7] at H
   have c7b0 : (((rd_T80 l0 x5_1).f2) == (wrap64 ((wrap64 (x1_1 + 1)) + 1))) = false := beq_eq_false_iff_ne.mpr c7
   have c7b1 : (((rd_T80 l0 x5_1).f2) != (wrap64 ((wrap64 (x1_1 + 1)) + 1))) = true := bne_iff_ne.mpr c7
   obtain rfl := Option.some.inj H
   have p243 : 0 ≤ (x5_1 : Int) := oD ‹_›
   have q243 : x5_1 < (l0.length : Int) := oD ‹_›
   obtain ⟨ad243, e243, hx243_0, hx243_1, hx243_2, hx243_3⟩ := at_T80 HR0.out x5_1 p243 q243
   cases e243
   replace p243 := eq_true p243
   replace q243 := eq_true q243
   have p244 : 0 ≤ (x5_1 : Int) := oD ‹_›
   have q244 : x5_1 < (l0.length : Int) := oD ‹_›
   obtain ⟨ad244, e244, hx244_0, hx244_1, hx244_2, hx244_3⟩ := at_T80 HR0.out x5_1 p244 q244
   obtain rfl : ad243 = ad244 := (by injection e244)
   replace p244 := eq_true p244
   replace q244 := eq_true q244
   have p245 : 0 ≤ (x5_1 : Int) := oD ‹_›
   have q245 : x5_1 < (l0.length : Int) := oD ‹_›
   obtain ⟨ad245, e245, hx245_0, hx245_1, hx245_2, hx245_3⟩ := at_T80 HR0.out x5_1 p245 q245
   obtain rfl : ad243 = ad245 := (by injection e245)
   replace p245 := eq_true p245
   replace q245 := eq_true q245
   go_wp2
   go_ret
   exact ⟨by rfl, by repeat (first | exact Drawn0.refl _ | apply Drawn0.step)⟩
  rw [if_pos c7] at H
  have c7b0 : (((rd_T80 l0 x5_1).f2) == (wrap64 ((wrap64 (x1_1 + 1)) + 1))) = true := beq_iff_eq.mpr c7
  have c7b1 : (((rd_T80 l0 x5_1).f2) != (wrap64 ((wrap64 (x1_1 + 1)) + 1))) = false := bne_eq_false_iff_eq.mpr c7
  clear c7
  by_cases c8 : (((rd_T80 l0 x5_1).f3) != ((Int.tmod (wrap64 ((wrap64 ((wrap64 (x1_1 + 1)) + 1)) + 1)) 3) == 0)) = true
  ·rw [if_pos c8] at H
   have c8b0 : (((rd_T80 l0 x5_1).f3) != ((Int.tmod (wrap64 ((wrap64 ((wrap64 (x1_1 + 1)) + 1)) + 1)) 3) == 0)) = true := c8
   (try (have c8b1 : decide (((rd_T80 l0 x5_1).f3) = ((Int.tmod (wrap64 ((wrap64 ((wrap64 (x1_1 + 1)) + 1)) + 1)) 3) == 0)) = false := by simpa using c8))
   (try (have c8b2 : (((rd_T80 l0 x5_1).f3) == ((Int.tmod (wrap64 ((wrap64 ((wrap64 (x1_1 + 1)) + 1)) + 1)) 3) == 0)) = false := by simpa using c8))
   (try (have c8b3 : ¬ (((rd_T80 l0 x5_1).f3) = ((Int.tmod (wrap64 ((wrap64 ((wrap64 (x1_1 + 1)) + 1)) + 1)) 3) == 0)) := by simpa using c8))
   clear c8
   obtain rfl := Option.some.inj H
   have p243 : 0 ≤ (x5_1 : Int) := oD ‹_›
   have q243 : x5_1 < (l0.length : Int) := oD ‹_›
   obtain ⟨ad243, e243, hx243_0, hx243_1, hx243_2, hx243_3⟩ := at_T80 HR0.out x5_1 p243 q243
   cases e243
   replace p243 := eq_true p243
   replace q243 := eq_true q243
   have p244 : 0 ≤ (x5_1 : Int) := oD ‹_›
   have q244 : x5_1 < (l0.length : Int) := oD ‹_›
   obtain ⟨ad244, e244, hx244_0, hx244_1, hx244_2, hx244_3⟩ := at_T80 HR0.out x5_1 p244 q244
   obtain rfl : ad243 = ad244 := (by injection e244)
   replace p244 := eq_true p244
   replace q244 := eq_true q244
   have p245 : 0 ≤ (x5_1 : Int) := oD ‹_›
   have q245 : x5_1 < (l0.length : Int) := oD ‹_›
   obtain ⟨ad245, e245, hx245_0, hx245_1, hx245_2, hx245_3⟩ := at_T80 HR0.out x5_1 p245 q245
   obtain rfl : ad243 = ad245 := (by injection e245)
   replace p245 := eq_true p245
   replace q245 := eq_true q245
   have p246 : 0 ≤ (x5_1 : Int) := oD ‹_›
   have q246 : x5_1 < (l0.length : Int) := oD ‹_›
   obtain ⟨ad246, e246, hx246_0, hx246_1, hx246_2, hx246_3⟩ := at_T80 HR0.out x5_1 p246 q246
   obtain rfl : ad243 = ad246 := (by injection e246)
   replace p246 := eq_true p246
   replace q246 := eq_true q246
   go_wp2
   go_ret
   exact ⟨by rfl, by repeat (first | exact Drawn0.refl _ | apply Drawn0.step)⟩
  rw [if_neg c8] at H
  have c8b0 : (((rd_T80 l0 x5_1).f3) != ((Int.tmod (wrap64 ((wrap64 ((wrap64 (x1_1 + 1)) + 1)) + 1)) 3) == 0)) = false := by simpa using c8
  (try (have c8b1 : decide (((rd_T80 l0 x5_1).f3) = ((Int.tmod (wrap64 ((wrap64 ((wrap64 (x1_1 + 1)) + 1)) + 1)) 3) == 0)) = true := by simpa using c8))
  (try (have c8b2 : (((rd_T80 l0 x5_1).f3) == ((Int.tmod (wrap64 ((wrap64 ((wrap64 (x1_1 + 1)) + 1)) + 1)) 3) == 0)) = true := by simpa using c8))
  clear c8
  have H' := aM H
  clear H
  have p243 : 0 ≤ (x5_1 : Int) := oD ‹_›
  have q243 : x5_1 < (l0.length : Int) := oD ‹_›
  obtain ⟨ad243, e243, hx243_0, hx243_1, hx243_2, hx243_3⟩ := at_T80 HR0.out x5_1 p243 q243
  cases e243
  replace p243 := eq_true p243
  replace q243 := eq_true q243
  have p244 : 0 ≤ (x5_1 : Int) := oD ‹_›
  have q244 : x5_1 < (l0.length : Int) := oD ‹_›
  obtain ⟨ad244, e244, hx244_0, hx244_1, hx244_2, hx244_3⟩ := at_T80 HR0.out x5_1 p244 q244
  obtain rfl : ad243 = ad244 := (by injection e244)
  replace p244 := eq_true p244
  replace q244 := eq_true q244
  have p245 : 0 ≤ (x5_1 : Int) := oD ‹_›
  have q245 : x5_1 < (l0.length : Int) := oD ‹_›
  obtain ⟨ad245, e245, hx245_0, hx245_1, hx245_2, hx245_3⟩ := at_T80 HR0.out x5_1 p245 q245
  obtain rfl : ad243 = ad245 := (by injection e245)
  replace p245 := eq_true p245
  replace q245 := eq_true q245
  have p246 : 0 ≤ (x5_1 : Int) := oD ‹_›
  have q246 : x5_1 < (l0.length : Int) := oD ‹_›
  obtain ⟨ad246, e246, hx246_0, hx246_1, hx246_2, hx246_3⟩ := at_T80 HR0.out x5_1 p246 q246
  obtain rfl : ad243 = ad246 := (by injection e246)
  replace p246 := eq_true p246
  replace q246 := eq_true q246
  go_wp2
  go_roundg k1
  case measure => have := HK1.out; omega
  case rel => exact ⟨(wrap64 ((wrap64 ((wrap64 ((wrap64 (x1_1 + 1)) + 1)) + 1)) + 1)), (wrap64 (x5_1 + 1)), (by rfl), (by rfl), H', ⟨by have := HK1.out; omega⟩, by repeat (first | exact Drawn0.refl _ | apply Drawn0.step)⟩
end Go.Proofs.Ytgibacfgjmdjdaa.PFnExactIsStable
end
section
namespace Go.Proofs.Ytgibacfgjmdjdaa.PFnExactIsStable
open Go.RowKit Go.Proofs.YtgibacfgjmdjdaaW.PrintWords Go.Proofs.YtgibacfgjmdjdaaW.PrintLast Go.Proofs.YtgibacfgjmdjdaaW.PrintMore
attribute [local go_sem] max2_int min2_int max_two min_two max_three min_three max_four min_four   -- for this text's walks alone
set_option linter.unusedVariables false
set_option maxHeartbeats 8000000
set_option maxRecDepth 100000
set_option linter.unusedSimpArgs false
def spec_Candidates.f (k : Nat) (l0_0 : List ByteArray) (l0_1 : List (S92)) (l0_2 : List Int) (l0_3 : List Int) (l0_4 : List (S95)) (l0_5 : List (S97)) (a1 : Int) (l2 : List Int) (l3 : List Bool) (l4 : List (S80)) : Option ((List (S80)) × Int) := if (l4.length : Int) > 4096 then (some ((([] : List (S80))), 2)) else ((spec_l07Env.f k l0_0 l0_1 l0_2 l0_3 l0_4 l0_5 l2 l3).bind fun t339 => (if t339 = 0 then ((spec_l07Routes.f k l0_0 l0_1 l0_2 l0_3 l0_4 l0_5 l4).bind fun t343 => (if t343 = true then ((spec_l01In.f a1 0 (wrap64 ((l0_0.length : Int) - 1))).bind fun t347 => (if t347 = true then ((spec_l07Candidates.f k l0_0 l0_1 l0_2 l0_3 l0_4 l0_5 a1 l2 l3 l4).bind fun t348 => (some (t348, 0))) else (some ((([] : List (S80))), 5)))) else (some ((([] : List (S80))), 1)))) else (some ((([] : List (S80))), t339))))
theorem spec_Candidates.calls (k : Nat) (A0_0 : Option Addr) (c0_0 : Nat) (l0_0 : List ByteArray) (A0_1 : Option Addr) (c0_1 : Nat) (l0_1 : List (S92)) (A0_2 : Option Addr) (c0_2 : Nat) (l0_2 : List Int) (A0_3 : Option Addr) (c0_3 : Nat) (l0_3 : List Int) (A0_4 : Option Addr) (c0_4 : Nat) (l0_4 : List (S95)) (A0_5 : Option Addr) (c0_5 : Nat) (l0_5 : List (S97)) (a1 : Int) (A2 : Option Addr) (c2 : Nat) (l2 : List Int) (A3 : Option Addr) (c3 : Nat) (l3 : List Bool) (A4 : Option Addr) (c4 : Nat) (l4 : List (S80)) (r1 : List (S80)) (r2 : Int) (w : World) (hr0_0 : Kd.C Kd.string w A0_0 l0_0.length l0_0) (hc0_0 : l0_0.length ≤ c0_0) (hr0_1 : Kd.C k92 w A0_1 l0_1.length l0_1) (hc0_1 : l0_1.length ≤ c0_1) (hr0_2 : Kd.C (Kd.int .i64) w A0_2 l0_2.length l0_2) (hc0_2 : l0_2.length ≤ c0_2) (hr0_3 : Kd.C (Kd.int .i64) w A0_3 l0_3.length l0_3) (hc0_3 : l0_3.length ≤ c0_3) (hr0_4 : Kd.C k95 w A0_4 l0_4.length l0_4) (hc0_4 : l0_4.length ≤ c0_4) (hr0_5 : Kd.C k97 w A0_5 l0_5.length l0_5) (hc0_5 : l0_5.length ≤ c0_5) (hr2 : Kd.C (Kd.int .i64) w A2 l2.length l2) (hc2 : l2.length ≤ c2) (hr3 : Kd.C Kd.bool w A3 l3.length l3) (hc3 : l3.length ≤ c3) (hr4 : Kd.C k80 w A4 l4.length l4) (hc4 : l4.length ≤ c4) (h : spec_Candidates.f k l0_0 l0_1 l0_2 l0_3 l0_4 l0_5 a1 l2 l3 l4 = some (r1, r2)) :
  Calls Try.prog 32 #[.agg #[.slice A0_0 l0_0.length c0_0, .slice A0_1 l0_1.length c0_1, .slice A0_2 l0_2.length c0_2, .slice A0_3 l0_3.length c0_3, .slice A0_4 l0_4.length c0_4, .slice A0_5 l0_5.length c0_5], .int .i64 a1, .slice A2 l2.length c2, .slice A3 l3.length c3, .slice A4 l4.length c4] w fun e w' => ∃ v0_ : Value, e = .returned (.tuple #[v0_, .int .i64 r2]) ∧ Kd.R k80 80 w' w.heap.size (fun _ => True) v0_ r1 ∧ Below w.heap.size w w' := by
 have hu38 := Try.underlying38
 obtain ⟨HR0_0, HC0_0, HR0_1, HC0_1, HR0_2, HC0_2, HR0_3, HC0_3, HR0_4, HC0_4, HR0_5, HC0_5⟩ := as12 hr0_0 hc0_0 hr0_1 hc0_1 hr0_2 hc0_2 hr0_3 hc0_3 hr0_4 hc0_4 hr0_5 hc0_5
 clear hr0_0 hc0_0 hr0_1 hc0_1 hr0_2 hc0_2 hr0_3 hc0_3 hr0_4 hc0_4 hr0_5 hc0_5
 have HR2 := aM hr2
 have HC2 := aM hc2
 clear hr2 hc2
 have HR3 := aM hr3
 have HC3 := aM hc3
 clear hr3 hc3
 have HR4 := aM hr4
 have HC4 := aM hc4
 clear hr4 hc4
 have HB := aM (Below.refl w.heap.size w)
 have H : (if (l4.length : Int) > 4096 then (some ((([] : List (S80))), 2)) else ((spec_l07Env.f k l0_0 l0_1 l0_2 l0_3 l0_4 l0_5 l2 l3).bind fun t339 => (if t339 = 0 then ((spec_l07Routes.f k l0_0 l0_1 l0_2 l0_3 l0_4 l0_5 l4).bind fun t343 => (if t343 = true then ((spec_l01In.f a1 0 (wrap64 ((l0_0.length : Int) - 1))).bind fun t347 => (if t347 = true then ((spec_l07Candidates.f k l0_0 l0_1 l0_2 l0_3 l0_4 l0_5 a1 l2 l3 l4).bind fun t348 => (some (t348, 0))) else (some ((([] : List (S80))), 5)))) else (some ((([] : List (S80))), 1)))) else (some ((([] : List (S80))), t339))))) = some (r1, r2) := h
 clear h
 by_cases c6 : (l4.length : Int) > 4096
 ·rw [if_pos c6] at H
  have c6b0 : decide (4096 < (l4.length : Int)) = true := decide_eq_true c6
  have c6b1 : decide (4096 < l4.length) = true := decide_eq_true (by omega)
  clear c6
  obtain ⟨y336, hy336⟩ : ∃ y_ : List (S80), y_ = (([] : List (S80))) := ⟨_, rfl⟩
  replace H : (some (y336, 2)) = some (r1, r2) := by (rw [hy336]; with_reducible exact H)
  have Ny336 := aM hy336
  clear hy336
  simp only [Option.some.injEq, Prod.mk.injEq] at H
  obtain ⟨rfl, rfl⟩ := H
  go_enter Try.func32, Try.ntmps32
  go_wp2_with (first | ((with_reducible refine gate_dst (N := 5) rfl ?_); refine box_event rfl (N := 5) rfl (cs := #[.slice A0_0 l0_0.length c0_0, .slice A0_1 l0_1.length c0_1, .slice A0_2 l0_2.length c0_2, .slice A0_3 l0_3.length c0_3, .slice A0_4 l0_4.length c0_4, .slice A0_5 l0_5.length c0_5]) (t := 38) (by go_simp; done) ?_; intro gb335 hg w7 hbox hb; have BK335 := aM (hbox); have GW335 := bGE HB.out hg; have GE335 := bGE HB.out hg; replace HB := aB HB hb; clear hb hbox hg) | ((with_reducible refine gate_dst (N := 16) rfl ?_); refine Kd.R_lit k80 _ 80 ?hg (N := 16) ?hd (xs := ([] : List (S80))) (inner := []) (ok := fun _ => True) (okp := fun _ => True) ?hr ?hp (fun _ hk => hk) trivial (Below.refl _ _) (Nat.le_refl _) (by simp) ?_; (case hd => rfl); (case hg => rfl); (case hr => (go_simp; done)); (case hp => exact (Reps.none _ _)); intro v337 w8 ho9 hb hg_ hnew_; clear hg_ hnew_; (rw [← Ny336.out] at ho9); have HO338 := aM (Kd.R_lower ho9 (below_size HB.out)); replace BK335 := aK BK335 hb; replace HB := aB HB hb; clear hb ho9))
  go_ret2
  exact ⟨_, by rfl, by exact HO338.out, by repeat ((with_reducible exact HB.out))⟩
 rw [if_neg c6] at H
 have c6b0 : decide (4096 < (l4.length : Int)) = false := decide_eq_false c6
 have c6b1 : decide (4096 < l4.length) = false := decide_eq_false (by omega)
 clear c6
 replace H := bS H
 obtain ⟨t339, A100, H⟩ := H
 replace H : (if t339 = 0 then ((spec_l07Routes.f k l0_0 l0_1 l0_2 l0_3 l0_4 l0_5 l4).bind fun t343 => (if t343 = true then ((spec_l01In.f a1 0 (wrap64 ((l0_0.length : Int) - 1))).bind fun t347 => (if t347 = true then ((spec_l07Candidates.f k l0_0 l0_1 l0_2 l0_3 l0_4 l0_5 a1 l2 l3 l4).bind fun t348 => (some (t348, 0))) else (some ((([] : List (S80))), 5)))) else (some ((([] : List (S80))), 1)))) else (some ((([] : List (S80))), t339))) = some (r1, r2) := H
 have A10 := aM A100
 clear A100
 by_cases c11 : t339 = 0
 rotate_left
 ·rw [if_neg c11] at H
  have c11b0 : (t339 == 0) = false := beq_eq_false_iff_ne.mpr c11
  have c11b1 : (t339 != 0) = true := bne_iff_ne.mpr c11
  obtain ⟨y340, hy340⟩ : ∃ y_ : List (S80), y_ = (([] : List (S80))) := ⟨_, rfl⟩
  replace H : (some (y340, t339)) = some (r1, r2) := by (rw [hy340]; with_reducible exact H)
  have Ny340 := aM hy340
  clear hy340
  simp only [Option.some.injEq, Prod.mk.injEq] at H
  obtain ⟨rfl, rfl⟩ := H
  go_enter Try.func32, Try.ntmps32
  go_wp2_with (first | ((with_reducible refine gate_dst (N := 5) rfl ?_); refine box_event rfl (N := 5) rfl (cs := #[.slice A0_0 l0_0.length c0_0, .slice A0_1 l0_1.length c0_1, .slice A0_2 l0_2.length c0_2, .slice A0_3 l0_3.length c0_3, .slice A0_4 l0_4.length c0_4, .slice A0_5 l0_5.length c0_5]) (t := 38) (by go_simp; done) ?_; intro gb335 hg w39 hbox hb; have BK335 := aM (hbox); have GW335 := bGE HB.out hg; have GE335 := bGE HB.out hg; replace HB := aB HB hb; clear hb hbox hg; obtain ⟨hcz40_0, hcz40_1, hcz40_2, hcz40_3, hcz40_4, hcz40_5⟩ := swc6 BK335.out; obtain ⟨hfz40_0, hfz40_1, hfz40_2, hfz40_3, hfz40_4, hfz40_5⟩ := swf6 BK335.out) | (go_at_call 39; (with_reducible refine (spec_l07Env.calls k _ _ l0_0 _ _ l0_1 _ _ l0_2 _ _ l0_3 _ _ l0_4 _ _ l0_5 _ _ l2 _ _ l3 t339 _ (Kd.C_below HR0_0.out HB.out) HC0_0.out (Kd.C_below HR0_1.out HB.out) HC0_1.out (Kd.C_below HR0_2.out HB.out) HC0_2.out (Kd.C_below HR0_3.out HB.out) HC0_3.out (Kd.C_below HR0_4.out HB.out) HC0_4.out (Kd.C_below HR0_5.out HB.out) HC0_5.out (Kd.C_below HR2.out HB.out) HC2.out (Kd.C_below HR3.out HB.out) HC3.out A10.out).mono ?_); rintro e w41 ⟨rfl, hb⟩; replace BK335 := aK BK335 hb; replace HB := aB HB hb; (try clear hb)) | ((with_reducible refine gate_dst (N := 23) rfl ?_); refine Kd.R_lit k80 _ 80 ?hg (N := 23) ?hd (xs := ([] : List (S80))) (inner := []) (ok := fun _ => True) (okp := fun _ => True) ?hr ?hp (fun _ hk => hk) trivial (Below.refl _ _) (Nat.le_refl _) (by simp) ?_; (case hd => rfl); (case hg => rfl); (case hr => (go_simp; done)); (case hp => exact (Reps.none _ _)); intro v341 w42 ho43 hb hg_ hnew_; clear hg_ hnew_; (rw [← Ny340.out] at ho43); have HO342 := aM (Kd.R_lower ho43 (below_size HB.out)); replace BK335 := aK BK335 hb; replace HB := aB HB hb; clear hb ho43))
  go_ret2
  exact ⟨_, by rfl, by exact HO342.out, by repeat ((with_reducible exact HB.out))⟩
 rw [if_pos c11] at H
 have c11b0 : (t339 == 0) = true := beq_iff_eq.mpr c11
 have c11b1 : (t339 != 0) = false := bne_eq_false_iff_eq.mpr c11
 clear c11
 replace H := bS H
 obtain ⟨t343, A120, H⟩ := H
 replace H : (if t343 = true then ((spec_l01In.f a1 0 (wrap64 ((l0_0.length : Int) - 1))).bind fun t347 => (if t347 = true then ((spec_l07Candidates.f k l0_0 l0_1 l0_2 l0_3 l0_4 l0_5 a1 l2 l3 l4).bind fun t348 => (some (t348, 0))) else (some ((([] : List (S80))), 5)))) else (some ((([] : List (S80))), 1))) = some (r1, r2) := H
 have A12 := aM A120
 clear A120
 by_cases c13 : t343 = true
 rotate_left
 ·replace c13 := Bool.eq_false_iff.mpr c13
  subst c13
  rw [if_neg (show ¬ (false = true) by decide)] at H
  obtain ⟨y344, hy344⟩ : ∃ y_ : List (S80), y_ = (([] : List (S80))) := ⟨_, rfl⟩
  replace H : (some (y344, 1)) = some (r1, r2) := by (rw [hy344]; with_reducible exact H)
  have Ny344 := aM hy344
  clear hy344
  simp only [Option.some.injEq, Prod.mk.injEq] at H
  obtain ⟨rfl, rfl⟩ := H
  go_enter Try.func32, Try.ntmps32
  go_wp2_with (first | ((with_reducible refine gate_dst (N := 5) rfl ?_); refine box_event rfl (N := 5) rfl (cs := #[.slice A0_0 l0_0.length c0_0, .slice A0_1 l0_1.length c0_1, .slice A0_2 l0_2.length c0_2, .slice A0_3 l0_3.length c0_3, .slice A0_4 l0_4.length c0_4, .slice A0_5 l0_5.length c0_5]) (t := 38) (by go_simp; done) ?_; intro gb335 hg w32 hbox hb; have BK335 := aM (hbox); have GW335 := bGE HB.out hg; have GE335 := bGE HB.out hg; replace HB := aB HB hb; clear hb hbox hg; obtain ⟨hcz33_0, hcz33_1, hcz33_2, hcz33_3, hcz33_4, hcz33_5⟩ := swc6 BK335.out; obtain ⟨hfz33_0, hfz33_1, hfz33_2, hfz33_3, hfz33_4, hfz33_5⟩ := swf6 BK335.out) | (go_at_call 39; (with_reducible refine (spec_l07Env.calls k _ _ l0_0 _ _ l0_1 _ _ l0_2 _ _ l0_3 _ _ l0_4 _ _ l0_5 _ _ l2 _ _ l3 t339 _ (Kd.C_below HR0_0.out HB.out) HC0_0.out (Kd.C_below HR0_1.out HB.out) HC0_1.out (Kd.C_below HR0_2.out HB.out) HC0_2.out (Kd.C_below HR0_3.out HB.out) HC0_3.out (Kd.C_below HR0_4.out HB.out) HC0_4.out (Kd.C_below HR0_5.out HB.out) HC0_5.out (Kd.C_below HR2.out HB.out) HC2.out (Kd.C_below HR3.out HB.out) HC3.out A10.out).mono ?_); rintro e w34 ⟨rfl, hb⟩; replace BK335 := aK BK335 hb; replace HB := aB HB hb; (try clear hb); obtain ⟨hcz35_0, hcz35_1, hcz35_2, hcz35_3, hcz35_4, hcz35_5⟩ := swc6 BK335.out; obtain ⟨hfz35_0, hfz35_1, hfz35_2, hfz35_3, hfz35_4, hfz35_5⟩ := swf6 BK335.out) | (go_at_call 66; (with_reducible refine (spec_l07Routes.calls k _ _ l0_0 _ _ l0_1 _ _ l0_2 _ _ l0_3 _ _ l0_4 _ _ l0_5 _ _ l4 false _ (Kd.C_below HR0_0.out HB.out) HC0_0.out (Kd.C_below HR0_1.out HB.out) HC0_1.out (Kd.C_below HR0_2.out HB.out) HC0_2.out (Kd.C_below HR0_3.out HB.out) HC0_3.out (Kd.C_below HR0_4.out HB.out) HC0_4.out (Kd.C_below HR0_5.out HB.out) HC0_5.out (Kd.C_below HR4.out HB.out) HC4.out A12.out).mono ?_); rintro e w36 ⟨rfl, hb⟩; replace BK335 := aK BK335 hb; replace HB := aB HB hb; (try clear hb)) | ((with_reducible refine gate_dst (N := 29) rfl ?_); refine Kd.R_lit k80 _ 80 ?hg (N := 29) ?hd (xs := ([] : List (S80))) (inner := []) (ok := fun _ => True) (okp := fun _ => True) ?hr ?hp (fun _ hk => hk) trivial (Below.refl _ _) (Nat.le_refl _) (by simp) ?_; (case hd => rfl); (case hg => rfl); (case hr => (go_simp; done)); (case hp => exact (Reps.none _ _)); intro v345 w37 ho38 hb hg_ hnew_; clear hg_ hnew_; (rw [← Ny344.out] at ho38); have HO346 := aM (Kd.R_lower ho38 (below_size HB.out)); replace BK335 := aK BK335 hb; replace HB := aB HB hb; clear hb ho38))
  go_ret2
  exact ⟨_, by rfl, by exact HO346.out, by repeat ((with_reducible exact HB.out))⟩
 subst c13
 rw [if_pos rfl] at H
 replace H := bS H
 obtain ⟨t347, A140, H⟩ := H
 replace H : (if t347 = true then ((spec_l07Candidates.f k l0_0 l0_1 l0_2 l0_3 l0_4 l0_5 a1 l2 l3 l4).bind fun t348 => (some (t348, 0))) else (some ((([] : List (S80))), 5))) = some (r1, r2) := H
 have A14 := aM A140
 clear A140
 by_cases c15 : t347 = true
 rotate_left
 ·replace c15 := Bool.eq_false_iff.mpr c15
  subst c15
  rw [if_neg (show ¬ (false = true) by decide)] at H
  obtain ⟨y351, hy351⟩ : ∃ y_ : List (S80), y_ = (([] : List (S80))) := ⟨_, rfl⟩
  replace H : (some (y351, 5)) = some (r1, r2) := by (rw [hy351]; with_reducible exact H)
  have Ny351 := aM hy351
  clear hy351
  simp only [Option.some.injEq, Prod.mk.injEq] at H
  obtain ⟨rfl, rfl⟩ := H
  go_enter Try.func32, Try.ntmps32
  go_wp2_with (first | ((with_reducible refine gate_dst (N := 5) rfl ?_); refine box_event rfl (N := 5) rfl (cs := #[.slice A0_0 l0_0.length c0_0, .slice A0_1 l0_1.length c0_1, .slice A0_2 l0_2.length c0_2, .slice A0_3 l0_3.length c0_3, .slice A0_4 l0_4.length c0_4, .slice A0_5 l0_5.length c0_5]) (t := 38) (by go_simp; done) ?_; intro gb335 hg w24 hbox hb; have BK335 := aM (hbox); have GW335 := bGE HB.out hg; have GE335 := bGE HB.out hg; replace HB := aB HB hb; clear hb hbox hg; obtain ⟨hcz25_0, hcz25_1, hcz25_2, hcz25_3, hcz25_4, hcz25_5⟩ := swc6 BK335.out; obtain ⟨hfz25_0, hfz25_1, hfz25_2, hfz25_3, hfz25_4, hfz25_5⟩ := swf6 BK335.out) | (go_at_call 39; (with_reducible refine (spec_l07Env.calls k _ _ l0_0 _ _ l0_1 _ _ l0_2 _ _ l0_3 _ _ l0_4 _ _ l0_5 _ _ l2 _ _ l3 t339 _ (Kd.C_below HR0_0.out HB.out) HC0_0.out (Kd.C_below HR0_1.out HB.out) HC0_1.out (Kd.C_below HR0_2.out HB.out) HC0_2.out (Kd.C_below HR0_3.out HB.out) HC0_3.out (Kd.C_below HR0_4.out HB.out) HC0_4.out (Kd.C_below HR0_5.out HB.out) HC0_5.out (Kd.C_below HR2.out HB.out) HC2.out (Kd.C_below HR3.out HB.out) HC3.out A10.out).mono ?_); rintro e w26 ⟨rfl, hb⟩; replace BK335 := aK BK335 hb; replace HB := aB HB hb; (try clear hb); obtain ⟨hcz27_0, hcz27_1, hcz27_2, hcz27_3, hcz27_4, hcz27_5⟩ := swc6 BK335.out; obtain ⟨hfz27_0, hfz27_1, hfz27_2, hfz27_3, hfz27_4, hfz27_5⟩ := swf6 BK335.out) | (go_at_call 66; (with_reducible refine (spec_l07Routes.calls k _ _ l0_0 _ _ l0_1 _ _ l0_2 _ _ l0_3 _ _ l0_4 _ _ l0_5 _ _ l4 true _ (Kd.C_below HR0_0.out HB.out) HC0_0.out (Kd.C_below HR0_1.out HB.out) HC0_1.out (Kd.C_below HR0_2.out HB.out) HC0_2.out (Kd.C_below HR0_3.out HB.out) HC0_3.out (Kd.C_below HR0_4.out HB.out) HC0_4.out (Kd.C_below HR0_5.out HB.out) HC0_5.out (Kd.C_below HR4.out HB.out) HC4.out A12.out).mono ?_); rintro e w28 ⟨rfl, hb⟩; replace BK335 := aK BK335 hb; replace HB := aB HB hb; (try clear hb); obtain ⟨hcz29_0, hcz29_1, hcz29_2, hcz29_3, hcz29_4, hcz29_5⟩ := swc6 BK335.out; obtain ⟨hfz29_0, hfz29_1, hfz29_2, hfz29_3, hfz29_4, hfz29_5⟩ := swf6 BK335.out) | (go_at_call 40; (with_reducible refine (spec_l01In.calls a1 0 (wrap64 ((l0_0.length : Int) - 1)) false _ A14.out).mono ?_); rintro e w' ⟨rfl, ⟨nd, rfl⟩⟩) | ((with_reducible refine gate_dst (N := 37) rfl ?_); refine Kd.R_lit k80 _ 80 ?hg (N := 37) ?hd (xs := ([] : List (S80))) (inner := []) (ok := fun _ => True) (okp := fun _ => True) ?hr ?hp (fun _ hk => hk) trivial (Below.refl _ _) (Nat.le_refl _) (by simp) ?_; (case hd => rfl); (case hg => rfl); (case hr => (go_simp; done)); (case hp => exact (Reps.none _ _)); intro v352 w30 ho31 hb hg_ hnew_; clear hg_ hnew_; (rw [← Ny351.out] at ho31); have HO353 := aM (Kd.R_lower ho31 (below_size (by repeat ((with_reducible first | exact HB.out | apply pw_below_drewN))))); replace BK335 := aM (blk_below (g := gb335) (o := .cells #[.slice A0_0 l0_0.length c0_0, .slice A0_1 l0_1.length c0_1, .slice A0_2 l0_2.length c0_2, .slice A0_3 l0_3.length c0_3, .slice A0_4 l0_4.length c0_4, .slice A0_5 l0_5.length c0_5] 38 (0, 0)) (by (with_reducible repeat (refine blk_drewN ?_ _)); exact BK335.out) hb); replace HB := aM (below_step (by repeat ((with_reducible first | exact HB.out | apply pw_below_drewN))) hb); clear hb ho31))
  go_ret2
  exact ⟨_, by rfl, by exact HO353.out, by repeat ((with_reducible exact HB.out))⟩
 subst c15
 rw [if_pos rfl] at H
 replace H := bS H
 obtain ⟨t348, A160, H⟩ := H
 replace H : (some (t348, 0)) = some (r1, r2) := H
 have A16 := aM A160
 clear A160
 simp only [Option.some.injEq, Prod.mk.injEq] at H
 obtain ⟨rfl, rfl⟩ := H
 go_enter Try.func32, Try.ntmps32
 go_wp2_with (first | ((with_reducible refine gate_dst (N := 5) rfl ?_); refine box_event rfl (N := 5) rfl (cs := #[.slice A0_0 l0_0.length c0_0, .slice A0_1 l0_1.length c0_1, .slice A0_2 l0_2.length c0_2, .slice A0_3 l0_3.length c0_3, .slice A0_4 l0_4.length c0_4, .slice A0_5 l0_5.length c0_5]) (t := 38) (by go_simp; done) ?_; intro gb335 hg w17 hbox hb; have BK335 := aM (hbox); have GW335 := bGE HB.out hg; have GE335 := bGE HB.out hg; replace HB := aB HB hb; clear hb hbox hg; obtain ⟨hcz18_0, hcz18_1, hcz18_2, hcz18_3, hcz18_4, hcz18_5⟩ := swc6 BK335.out; obtain ⟨hfz18_0, hfz18_1, hfz18_2, hfz18_3, hfz18_4, hfz18_5⟩ := swf6 BK335.out) | (go_at_call 39; (with_reducible refine (spec_l07Env.calls k _ _ l0_0 _ _ l0_1 _ _ l0_2 _ _ l0_3 _ _ l0_4 _ _ l0_5 _ _ l2 _ _ l3 t339 _ (Kd.C_below HR0_0.out HB.out) HC0_0.out (Kd.C_below HR0_1.out HB.out) HC0_1.out (Kd.C_below HR0_2.out HB.out) HC0_2.out (Kd.C_below HR0_3.out HB.out) HC0_3.out (Kd.C_below HR0_4.out HB.out) HC0_4.out (Kd.C_below HR0_5.out HB.out) HC0_5.out (Kd.C_below HR2.out HB.out) HC2.out (Kd.C_below HR3.out HB.out) HC3.out A10.out).mono ?_); rintro e w19 ⟨rfl, hb⟩; replace BK335 := aK BK335 hb; replace HB := aB HB hb; (try clear hb); obtain ⟨hcz20_0, hcz20_1, hcz20_2, hcz20_3, hcz20_4, hcz20_5⟩ := swc6 BK335.out; obtain ⟨hfz20_0, hfz20_1, hfz20_2, hfz20_3, hfz20_4, hfz20_5⟩ := swf6 BK335.out) | (go_at_call 66; (with_reducible refine (spec_l07Routes.calls k _ _ l0_0 _ _ l0_1 _ _ l0_2 _ _ l0_3 _ _ l0_4 _ _ l0_5 _ _ l4 true _ (Kd.C_below HR0_0.out HB.out) HC0_0.out (Kd.C_below HR0_1.out HB.out) HC0_1.out (Kd.C_below HR0_2.out HB.out) HC0_2.out (Kd.C_below HR0_3.out HB.out) HC0_3.out (Kd.C_below HR0_4.out HB.out) HC0_4.out (Kd.C_below HR0_5.out HB.out) HC0_5.out (Kd.C_below HR4.out HB.out) HC4.out A12.out).mono ?_); rintro e w21 ⟨rfl, hb⟩; replace BK335 := aK BK335 hb; replace HB := aB HB hb; (try clear hb); obtain ⟨hcz22_0, hcz22_1, hcz22_2, hcz22_3, hcz22_4, hcz22_5⟩ := swc6 BK335.out; obtain ⟨hfz22_0, hfz22_1, hfz22_2, hfz22_3, hfz22_4, hfz22_5⟩ := swf6 BK335.out) | (go_at_call 40; (with_reducible refine (spec_l01In.calls a1 0 (wrap64 ((l0_0.length : Int) - 1)) true _ A14.out).mono ?_); rintro e w' ⟨rfl, ⟨nd, rfl⟩⟩) | (go_at_call 70; (with_reducible refine (spec_l07Candidates.calls k _ _ l0_0 _ _ l0_1 _ _ l0_2 _ _ l0_3 _ _ l0_4 _ _ l0_5 a1 _ _ l2 _ _ l3 _ _ l4 t348 _ (Kd.C_below HR0_0.out (by repeat ((with_reducible first | exact HB.out | apply pw_below_drewN)))) HC0_0.out (Kd.C_below HR0_1.out (by repeat ((with_reducible first | exact HB.out | apply pw_below_drewN)))) HC0_1.out (Kd.C_below HR0_2.out (by repeat ((with_reducible first | exact HB.out | apply pw_below_drewN)))) HC0_2.out (Kd.C_below HR0_3.out (by repeat ((with_reducible first | exact HB.out | apply pw_below_drewN)))) HC0_3.out (Kd.C_below HR0_4.out (by repeat ((with_reducible first | exact HB.out | apply pw_below_drewN)))) HC0_4.out (Kd.C_below HR0_5.out (by repeat ((with_reducible first | exact HB.out | apply pw_below_drewN)))) HC0_5.out (Kd.C_below HR2.out (by repeat ((with_reducible first | exact HB.out | apply pw_below_drewN)))) HC2.out (Kd.C_below HR3.out (by repeat ((with_reducible first | exact HB.out | apply pw_below_drewN)))) HC3.out (Kd.C_below HR4.out (by repeat ((with_reducible first | exact HB.out | apply pw_below_drewN)))) HC4.out A16.out).mono ?_); rintro e w23 ⟨v349, rfl, ho0, hb⟩; have HO350 := aM (Kd.R_lower ho0 (below_size (by repeat ((with_reducible first | exact HB.out | apply pw_below_drewN))))); replace BK335 := aM (blk_below (g := gb335) (o := .cells #[.slice A0_0 l0_0.length c0_0, .slice A0_1 l0_1.length c0_1, .slice A0_2 l0_2.length c0_2, .slice A0_3 l0_3.length c0_3, .slice A0_4 l0_4.length c0_4, .slice A0_5 l0_5.length c0_5] 38 (0, 0)) (by (with_reducible repeat (refine blk_drewN ?_ _)); exact BK335.out) hb); replace HB := aM (below_step (by repeat ((with_reducible first | exact HB.out | apply pw_below_drewN))) hb); (try clear hb); (try clear ho0)))
 go_ret2
 exact ⟨_, by rfl, by exact HO350.out, by repeat ((with_reducible exact HB.out))⟩
def impl_Candidates.f (k : Nat) (l0_0 : List ByteArray) (l0_1 : List (S92)) (l0_2 : List Int) (l0_3 : List Int) (l0_4 : List (S95)) (l0_5 : List (S97)) (a1 : Int) (l2 : List Int) (l3 : List Bool) (l4 : List (S80)) : Option ((List (S80)) × Int) := (impl_routesCode.f k l0_0 l0_1 l0_2 l0_3 l0_4 l0_5 l2 l3 l4 true).bind fun t411 => (if t411 = 0 then ((impl_isRouter.f l0_0 l0_1 l0_2 l0_3 l0_4 l0_5 a1).bind fun t412 => (if t412 = true then ((impl_candidates.f k l0_0 l0_1 l0_2 l0_3 l0_4 l0_5 a1 l2 l3 l4).bind fun t413 => (some (t413, 0))) else (some (([] : List (S80)), 5)))) else (some (([] : List (S80)), t411)))
theorem impl_Candidates.calls (k : Nat) (A0_0 : Option Addr) (c0_0 : Nat) (l0_0 : List ByteArray) (A0_1 : Option Addr) (c0_1 : Nat) (l0_1 : List (S92)) (A0_2 : Option Addr) (c0_2 : Nat) (l0_2 : List Int) (A0_3 : Option Addr) (c0_3 : Nat) (l0_3 : List Int) (A0_4 : Option Addr) (c0_4 : Nat) (l0_4 : List (S95)) (A0_5 : Option Addr) (c0_5 : Nat) (l0_5 : List (S97)) (a1 : Int) (A2 : Option Addr) (c2 : Nat) (l2 : List Int) (A3 : Option Addr) (c3 : Nat) (l3 : List Bool) (A4 : Option Addr) (c4 : Nat) (l4 : List (S80)) (r1 : List (S80)) (r2 : Int) (w : World) (hr0_0 : Kd.C Kd.string w A0_0 l0_0.length l0_0) (hc0_0 : l0_0.length ≤ c0_0) (hr0_1 : Kd.C k92 w A0_1 l0_1.length l0_1) (hc0_1 : l0_1.length ≤ c0_1) (hr0_2 : Kd.C (Kd.int .i64) w A0_2 l0_2.length l0_2) (hc0_2 : l0_2.length ≤ c0_2) (hr0_3 : Kd.C (Kd.int .i64) w A0_3 l0_3.length l0_3) (hc0_3 : l0_3.length ≤ c0_3) (hr0_4 : Kd.C k95 w A0_4 l0_4.length l0_4) (hc0_4 : l0_4.length ≤ c0_4) (hr0_5 : Kd.C k97 w A0_5 l0_5.length l0_5) (hc0_5 : l0_5.length ≤ c0_5) (hr2 : Kd.C (Kd.int .i64) w A2 l2.length l2) (hc2 : l2.length ≤ c2) (hr3 : Kd.C Kd.bool w A3 l3.length l3) (hc3 : l3.length ≤ c3) (hr4 : Kd.C k80 w A4 l4.length l4) (hc4 : l4.length ≤ c4) (h : impl_Candidates.f k l0_0 l0_1 l0_2 l0_3 l0_4 l0_5 a1 l2 l3 l4 = some (r1, r2)) :
  Calls Try.prog 33 #[.agg #[.slice A0_0 l0_0.length c0_0, .slice A0_1 l0_1.length c0_1, .slice A0_2 l0_2.length c0_2, .slice A0_3 l0_3.length c0_3, .slice A0_4 l0_4.length c0_4, .slice A0_5 l0_5.length c0_5], .int .i64 a1, .slice A2 l2.length c2, .slice A3 l3.length c3, .slice A4 l4.length c4] w fun e w' => ∃ v0_ : Value, e = .returned (.tuple #[v0_, .int .i64 r2]) ∧ Kd.R k80 80 w' w.heap.size (fun _ => True) v0_ r1 ∧ Below w.heap.size w w' := by
 have hu38 := Try.underlying38
 obtain ⟨HR0_0, HC0_0, HR0_1, HC0_1, HR0_2, HC0_2, HR0_3, HC0_3, HR0_4, HC0_4, HR0_5, HC0_5⟩ := as12 hr0_0 hc0_0 hr0_1 hc0_1 hr0_2 hc0_2 hr0_3 hc0_3 hr0_4 hc0_4 hr0_5 hc0_5
 clear hr0_0 hc0_0 hr0_1 hc0_1 hr0_2 hc0_2 hr0_3 hc0_3 hr0_4 hc0_4 hr0_5 hc0_5
 have HR2 := aM hr2
 have HC2 := aM hc2
 clear hr2 hc2
 have HR3 := aM hr3
 have HC3 := aM hc3
 clear hr3 hc3
 have HR4 := aM hr4
 have HC4 := aM hc4
 clear hr4 hc4
 have HB := aM (Below.refl w.heap.size w)
 have H : ((impl_routesCode.f k l0_0 l0_1 l0_2 l0_3 l0_4 l0_5 l2 l3 l4 true).bind fun t411 => (if t411 = 0 then ((impl_isRouter.f l0_0 l0_1 l0_2 l0_3 l0_4 l0_5 a1).bind fun t412 => (if t412 = true then ((impl_candidates.f k l0_0 l0_1 l0_2 l0_3 l0_4 l0_5 a1 l2 l3 l4).bind fun t413 => (some (t413, 0))) else (some (([] : List (S80)), 5)))) else (some (([] : List (S80)), t411)))) = some (r1, r2) := h
 clear h
 replace H := bS H
 obtain ⟨t411, A60, H⟩ := H
 replace H : (if t411 = 0 then ((impl_isRouter.f l0_0 l0_1 l0_2 l0_3 l0_4 l0_5 a1).bind fun t412 => (if t412 = true then ((impl_candidates.f k l0_0 l0_1 l0_2 l0_3 l0_4 l0_5 a1 l2 l3 l4).bind fun t413 => (some (t413, 0))) else (some (([] : List (S80)), 5)))) else (some (([] : List (S80)), t411))) = some (r1, r2) := H
 have A6 := aM A60
 clear A60
 by_cases c7 : t411 = 0
 rotate_left
 ·rw [if_neg c7] at H
  have c7b0 : (t411 == 0) = false := beq_eq_false_iff_ne.mpr c7
  have c7b1 : (t411 != 0) = true := bne_iff_ne.mpr c7
  simp only [Option.some.injEq, Prod.mk.injEq] at H
  obtain ⟨rfl, rfl⟩ := H
  go_enter Try.func33, Try.ntmps33
  go_wp2_with (first | ((with_reducible refine gate_dst (N := 5) rfl ?_); refine box_event rfl (N := 5) rfl (cs := #[.slice A0_0 l0_0.length c0_0, .slice A0_1 l0_1.length c0_1, .slice A0_2 l0_2.length c0_2, .slice A0_3 l0_3.length c0_3, .slice A0_4 l0_4.length c0_4, .slice A0_5 l0_5.length c0_5]) (t := 38) (by go_simp; done) ?_; intro gb410 hg w23 hbox hb; have BK410 := aM (hbox); have GW410 := bGE HB.out hg; have GE410 := bGE HB.out hg; replace HB := aB HB hb; clear hb hbox hg; obtain ⟨hcz24_0, hcz24_1, hcz24_2, hcz24_3, hcz24_4, hcz24_5⟩ := swc6 BK410.out; obtain ⟨hfz24_0, hfz24_1, hfz24_2, hfz24_3, hfz24_4, hfz24_5⟩ := swf6 BK410.out) | (go_at_call 46; (with_reducible refine (impl_routesCode.calls k _ _ l0_0 _ _ l0_1 _ _ l0_2 _ _ l0_3 _ _ l0_4 _ _ l0_5 _ _ l2 _ _ l3 _ _ l4 true t411 _ (Kd.C_below HR0_0.out HB.out) HC0_0.out (Kd.C_below HR0_1.out HB.out) HC0_1.out (Kd.C_below HR0_2.out HB.out) HC0_2.out (Kd.C_below HR0_3.out HB.out) HC0_3.out (Kd.C_below HR0_4.out HB.out) HC0_4.out (Kd.C_below HR0_5.out HB.out) HC0_5.out (Kd.C_below HR2.out HB.out) HC2.out (Kd.C_below HR3.out HB.out) HC3.out (Kd.C_below HR4.out HB.out) HC4.out A6.out).mono ?_); rintro e w25 ⟨rfl, hb⟩; replace BK410 := aK BK410 hb; replace HB := aB HB hb; (try clear hb)))
  go_ret2
  exact ⟨_, by rfl, by exact Kd.R_nil _ _ _ _ _, by repeat ((with_reducible exact HB.out))⟩
 rw [if_pos c7] at H
 have c7b0 : (t411 == 0) = true := beq_iff_eq.mpr c7
 have c7b1 : (t411 != 0) = false := bne_eq_false_iff_eq.mpr c7
 clear c7
 replace H := bS H
 obtain ⟨t412, A80, H⟩ := H
 replace H : (if t412 = true then ((impl_candidates.f k l0_0 l0_1 l0_2 l0_3 l0_4 l0_5 a1 l2 l3 l4).bind fun t413 => (some (t413, 0))) else (some (([] : List (S80)), 5))) = some (r1, r2) := H
 have A8 := aM A80
 clear A80
 by_cases c9 : t412 = true
 rotate_left
 ·replace c9 := Bool.eq_false_iff.mpr c9
  subst c9
  rw [if_neg (show ¬ (false = true) by decide)] at H
  simp only [Option.some.injEq, Prod.mk.injEq] at H
  obtain ⟨rfl, rfl⟩ := H
  go_enter Try.func33, Try.ntmps33
  go_wp2_with (first | ((with_reducible refine gate_dst (N := 5) rfl ?_); refine box_event rfl (N := 5) rfl (cs := #[.slice A0_0 l0_0.length c0_0, .slice A0_1 l0_1.length c0_1, .slice A0_2 l0_2.length c0_2, .slice A0_3 l0_3.length c0_3, .slice A0_4 l0_4.length c0_4, .slice A0_5 l0_5.length c0_5]) (t := 38) (by go_simp; done) ?_; intro gb410 hg w18 hbox hb; have BK410 := aM (hbox); have GW410 := bGE HB.out hg; have GE410 := bGE HB.out hg; replace HB := aB HB hb; clear hb hbox hg; obtain ⟨hcz19_0, hcz19_1, hcz19_2, hcz19_3, hcz19_4, hcz19_5⟩ := swc6 BK410.out; obtain ⟨hfz19_0, hfz19_1, hfz19_2, hfz19_3, hfz19_4, hfz19_5⟩ := swf6 BK410.out) | (go_at_call 46; (with_reducible refine (impl_routesCode.calls k _ _ l0_0 _ _ l0_1 _ _ l0_2 _ _ l0_3 _ _ l0_4 _ _ l0_5 _ _ l2 _ _ l3 _ _ l4 true t411 _ (Kd.C_below HR0_0.out HB.out) HC0_0.out (Kd.C_below HR0_1.out HB.out) HC0_1.out (Kd.C_below HR0_2.out HB.out) HC0_2.out (Kd.C_below HR0_3.out HB.out) HC0_3.out (Kd.C_below HR0_4.out HB.out) HC0_4.out (Kd.C_below HR0_5.out HB.out) HC0_5.out (Kd.C_below HR2.out HB.out) HC2.out (Kd.C_below HR3.out HB.out) HC3.out (Kd.C_below HR4.out HB.out) HC4.out A6.out).mono ?_); rintro e w20 ⟨rfl, hb⟩; replace BK410 := aK BK410 hb; replace HB := aB HB hb; (try clear hb); obtain ⟨hcz21_0, hcz21_1, hcz21_2, hcz21_3, hcz21_4, hcz21_5⟩ := swc6 BK410.out; obtain ⟨hfz21_0, hfz21_1, hfz21_2, hfz21_3, hfz21_4, hfz21_5⟩ := swf6 BK410.out) | (go_at_call 64; (with_reducible refine (impl_isRouter.calls _ _ l0_0 _ _ l0_1 _ _ l0_2 _ _ l0_3 _ _ l0_4 _ _ l0_5 a1 false _ (Kd.C_below HR0_0.out HB.out) HC0_0.out (Kd.C_below HR0_1.out HB.out) HC0_1.out (Kd.C_below HR0_2.out HB.out) HC0_2.out (Kd.C_below HR0_3.out HB.out) HC0_3.out (Kd.C_below HR0_4.out HB.out) HC0_4.out (Kd.C_below HR0_5.out HB.out) HC0_5.out A8.out).mono ?_); rintro e w22 ⟨rfl, hb⟩; replace BK410 := aK BK410 hb; replace HB := aB HB hb; (try clear hb)))
  go_ret2
  exact ⟨_, by rfl, by exact Kd.R_nil _ _ _ _ _, by repeat ((with_reducible exact HB.out))⟩
 subst c9
 rw [if_pos rfl] at H
 replace H := bS H
 obtain ⟨t413, A100, H⟩ := H
 replace H : (some (t413, 0)) = some (r1, r2) := H
 have A10 := aM A100
 clear A100
 simp only [Option.some.injEq, Prod.mk.injEq] at H
 obtain ⟨rfl, rfl⟩ := H
 go_enter Try.func33, Try.ntmps33
 go_wp2_with (first | ((with_reducible refine gate_dst (N := 5) rfl ?_); refine box_event rfl (N := 5) rfl (cs := #[.slice A0_0 l0_0.length c0_0, .slice A0_1 l0_1.length c0_1, .slice A0_2 l0_2.length c0_2, .slice A0_3 l0_3.length c0_3, .slice A0_4 l0_4.length c0_4, .slice A0_5 l0_5.length c0_5]) (t := 38) (by go_simp; done) ?_; intro gb410 hg w11 hbox hb; have BK410 := aM (hbox); have GW410 := bGE HB.out hg; have GE410 := bGE HB.out hg; replace HB := aB HB hb; clear hb hbox hg; obtain ⟨hcz12_0, hcz12_1, hcz12_2, hcz12_3, hcz12_4, hcz12_5⟩ := swc6 BK410.out; obtain ⟨hfz12_0, hfz12_1, hfz12_2, hfz12_3, hfz12_4, hfz12_5⟩ := swf6 BK410.out) | (go_at_call 46; (with_reducible refine (impl_routesCode.calls k _ _ l0_0 _ _ l0_1 _ _ l0_2 _ _ l0_3 _ _ l0_4 _ _ l0_5 _ _ l2 _ _ l3 _ _ l4 true t411 _ (Kd.C_below HR0_0.out HB.out) HC0_0.out (Kd.C_below HR0_1.out HB.out) HC0_1.out (Kd.C_below HR0_2.out HB.out) HC0_2.out (Kd.C_below HR0_3.out HB.out) HC0_3.out (Kd.C_below HR0_4.out HB.out) HC0_4.out (Kd.C_below HR0_5.out HB.out) HC0_5.out (Kd.C_below HR2.out HB.out) HC2.out (Kd.C_below HR3.out HB.out) HC3.out (Kd.C_below HR4.out HB.out) HC4.out A6.out).mono ?_); rintro e w13 ⟨rfl, hb⟩; replace BK410 := aK BK410 hb; replace HB := aB HB hb; (try clear hb); obtain ⟨hcz14_0, hcz14_1, hcz14_2, hcz14_3, hcz14_4, hcz14_5⟩ := swc6 BK410.out; obtain ⟨hfz14_0, hfz14_1, hfz14_2, hfz14_3, hfz14_4, hfz14_5⟩ := swf6 BK410.out) | (go_at_call 64; (with_reducible refine (impl_isRouter.calls _ _ l0_0 _ _ l0_1 _ _ l0_2 _ _ l0_3 _ _ l0_4 _ _ l0_5 a1 true _ (Kd.C_below HR0_0.out HB.out) HC0_0.out (Kd.C_below HR0_1.out HB.out) HC0_1.out (Kd.C_below HR0_2.out HB.out) HC0_2.out (Kd.C_below HR0_3.out HB.out) HC0_3.out (Kd.C_below HR0_4.out HB.out) HC0_4.out (Kd.C_below HR0_5.out HB.out) HC0_5.out A8.out).mono ?_); rintro e w15 ⟨rfl, hb⟩; replace BK410 := aK BK410 hb; replace HB := aB HB hb; (try clear hb); obtain ⟨hcz16_0, hcz16_1, hcz16_2, hcz16_3, hcz16_4, hcz16_5⟩ := swc6 BK410.out; obtain ⟨hfz16_0, hfz16_1, hfz16_2, hfz16_3, hfz16_4, hfz16_5⟩ := swf6 BK410.out) | (go_at_call 71; (with_reducible refine (impl_candidates.calls k _ _ l0_0 _ _ l0_1 _ _ l0_2 _ _ l0_3 _ _ l0_4 _ _ l0_5 a1 _ _ l2 _ _ l3 _ _ l4 t413 _ (Kd.C_below HR0_0.out HB.out) HC0_0.out (Kd.C_below HR0_1.out HB.out) HC0_1.out (Kd.C_below HR0_2.out HB.out) HC0_2.out (Kd.C_below HR0_3.out HB.out) HC0_3.out (Kd.C_below HR0_4.out HB.out) HC0_4.out (Kd.C_below HR0_5.out HB.out) HC0_5.out (Kd.C_below HR2.out HB.out) HC2.out (Kd.C_below HR3.out HB.out) HC3.out (Kd.C_below HR4.out HB.out) HC4.out A10.out).mono ?_); rintro e w17 ⟨v414, rfl, ho0, hb⟩; have HO415 := aM (Kd.R_lower ho0 (below_size HB.out)); replace BK410 := aK BK410 hb; replace HB := aB HB hb; (try clear hb); (try clear ho0)))
 go_ret2
 exact ⟨_, by rfl, by exact HO415.out, by repeat ((with_reducible exact HB.out))⟩
end Go.Proofs.Ytgibacfgjmdjdaa.PFnExactIsStable
end
section
namespace Go.Proofs.Ytgibacfgjmdjdaa.PFnExactIsStable
open Go.RowKit Go.Proofs.YtgibacfgjmdjdaaW.PrintWords Go.Proofs.YtgibacfgjmdjdaaW.PrintLast Go.Proofs.YtgibacfgjmdjdaaW.PrintMore
attribute [local go_sem] max2_int min2_int max_two min_two max_three min_three max_four min_four
set_option linter.unusedVariables false
set_option linter.unusedSimpArgs false
instance decS80 : DecidableEq S80 := fun a b => if h : a.f0 = b.f0 ∧ a.f1 = b.f1 ∧ a.f2 = b.f2 ∧ a.f3 = b.f3 then isTrue (by obtain ⟨a0, a1, a2, a3⟩ := a; obtain ⟨b0, b1, b2, b3⟩ := b; obtain ⟨rfl, rfl, rfl, rfl⟩ := h; rfl) else isFalse (fun e => h (by subst e; exact ⟨rfl, rfl, rfl, rfl⟩))
section
variable {V W : World} {lo : Nat} {ok ok' : Nat → Prop} {A0 : Option Addr} {c0 : Nat} {A1 : Option Addr} {c1 : Nat} {A2 : Option Addr} {c2 : Nat} {A3 : Option Addr} {c3 : Nat} {A4 : Option Addr} {c4 : Nat} {A5 : Option Addr} {c5 : Nat} {q0 : List ByteArray} {q1 : List S92} {q2 : List Int} {q3 : List Int} {q4 : List S95} {q5 : List S97} {kf : Nat}
theorem markNet_any {w0 : World} {a1 r1 : Int} {r2 : List ByteArray} {r3 : List S92} {r4 r5 : List Int} {r6 : List S95} {r7 : List S97} (hB : Below w0.heap.size w0 V) (h1 : NP w0.heap.size ok A0 c0 A1 c1 A2 c2 A3 c3 A4 c4 A5 c5 q0 q1 q2 q3 q4 q5 V) (hap : ∀ k, some k = (.slice A2 q2.length c2 : Value).ownBlock → ¬ some k = (.slice A3 q3.length c3 : Value).ownBlock) (h : laws_markNet.f kf q0 q1 q2 q3 q4 q5 a1 = some (r1, r2, r3, r4, r5, r6, r7)) :
  Calls Try.prog 18 #[.agg #[.slice A0 q0.length c0, .slice A1 q1.length c1, .slice A2 q2.length c2, .slice A3 q3.length c3, .slice A4 q4.length c4, .slice A5 q5.length c5], .int .i64 a1] V fun e w' => e = .returned (.int .i64 r1) ∧ Below w0.heap.size w0 w' ∧ Kept V w' ok := by
 refine (laws_markNet.calls kf (fun k_ => some k_ = (.slice A0 q0.length c0 : Value).ownBlock) (.slice A0 q0.length c0) q0 (fun k_ => some k_ = (.slice A1 q1.length c1 : Value).ownBlock) (.slice A1 q1.length c1) q1 (fun k_ => some k_ = (.slice A2 q2.length c2 : Value).ownBlock) (.slice A2 q2.length c2) q2 (fun k_ => some k_ = (.slice A3 q3.length c3 : Value).ownBlock) (.slice A3 q3.length c3) q3 (fun k_ => some k_ = (.slice A4 q4.length c4 : Value).ownBlock) (.slice A4 q4.length c4) q4 (fun k_ => some k_ = (.slice A5 q5.length c5 : Value).ownBlock) (.slice A5 q5.length c5) q5 a1 r1 r2 r3 r4 r5 r6 r7 w0 V hB (Kd.R_tight rfl h1.1) (Kd.R_tight rfl h1.2.1) (Kd.R_tight rfl h1.2.2.1) hap (Kd.R_tight rfl h1.2.2.2.1) (fun k e e2 => hap k e2 e) (Kd.R_tight rfl h1.2.2.2.2.1) (Kd.R_tight rfl h1.2.2.2.2.2) h).mono ?_
 rintro e w' ⟨rfl, -, -, -, -, -, -, hb, hk⟩
 exact ⟨rfl, hb, hk.mono (fun k hs => h1.own k hs)⟩
theorem spec_Candidates_any {a1 : Int} {X2 : Option Addr} {y2 : Nat} {l2 : List Int} {X3 : Option Addr} {y3 : Nat} {l3 : List Bool} {X4 : Option Addr} {y4 : Nat} {l4 : List S80} {s1 : List S80} {s2 : Int} (h1 : NP lo ok A0 c0 A1 c1 A2 c2 A3 c3 A4 c4 A5 c5 q0 q1 q2 q3 q4 q5 V) (hr2 : Kd.C (Kd.int .i64) V X2 l2.length l2) (hc2 : l2.length ≤ y2) (hr3 : Kd.C Kd.bool V X3 l3.length l3) (hc3 : l3.length ≤ y3) (hr4 : Kd.C k80 V X4 l4.length l4) (hc4 : l4.length ≤ y4) (h : spec_Candidates.f kf q0 q1 q2 q3 q4 q5 a1 l2 l3 l4 = some (s1, s2)) :
  Calls Try.prog 32 #[.agg #[.slice A0 q0.length c0, .slice A1 q1.length c1, .slice A2 q2.length c2, .slice A3 q3.length c3, .slice A4 q4.length c4, .slice A5 q5.length c5], .int .i64 a1, .slice X2 l2.length y2, .slice X3 l3.length y3, .slice X4 l4.length y4] V fun e w' => (∃ v0_ : Value, e = .returned (.tuple #[v0_, .int .i64 s2]) ∧ Kd.R k80 80 w' V.heap.size (fun _ => True) v0_ s1) ∧ Below V.heap.size V w' :=
 (spec_Candidates.calls kf A0 c0 q0 A1 c1 q1 A2 c2 q2 A3 c3 q3 A4 c4 q4 A5 c5 q5 a1 X2 y2 l2 X3 y3 l3 X4 y4 l4 s1 s2 V (Kd.R_reads' h1.1).2.2 (Kd.R_reads' h1.1).2.1 (Kd.R_reads' h1.2.1).2.2 (Kd.R_reads' h1.2.1).2.1 (Kd.R_reads' h1.2.2.1).2.2 (Kd.R_reads' h1.2.2.1).2.1 (Kd.R_reads' h1.2.2.2.1).2.2 (Kd.R_reads' h1.2.2.2.1).2.1 (Kd.R_reads' h1.2.2.2.2.1).2.2 (Kd.R_reads' h1.2.2.2.2.1).2.1 (Kd.R_reads' h1.2.2.2.2.2).2.2 (Kd.R_reads' h1.2.2.2.2.2).2.1 hr2 hc2 hr3 hc3 hr4 hc4 h).mono (fun _ _ ⟨v, he, hr, hb⟩ => ⟨⟨v, he, hr⟩, hb⟩)
theorem impl_Candidates_any {a1 : Int} {X2 : Option Addr} {y2 : Nat} {l2 : List Int} {X3 : Option Addr} {y3 : Nat} {l3 : List Bool} {X4 : Option Addr} {y4 : Nat} {l4 : List S80} {s1 : List S80} {s2 : Int} (h1 : NP lo ok A0 c0 A1 c1 A2 c2 A3 c3 A4 c4 A5 c5 q0 q1 q2 q3 q4 q5 V) (hr2 : Kd.C (Kd.int .i64) V X2 l2.length l2) (hc2 : l2.length ≤ y2) (hr3 : Kd.C Kd.bool V X3 l3.length l3) (hc3 : l3.length ≤ y3) (hr4 : Kd.C k80 V X4 l4.length l4) (hc4 : l4.length ≤ y4) (h : impl_Candidates.f kf q0 q1 q2 q3 q4 q5 a1 l2 l3 l4 = some (s1, s2)) :
  Calls Try.prog 33 #[.agg #[.slice A0 q0.length c0, .slice A1 q1.length c1, .slice A2 q2.length c2, .slice A3 q3.length c3, .slice A4 q4.length c4, .slice A5 q5.length c5], .int .i64 a1, .slice X2 l2.length y2, .slice X3 l3.length y3, .slice X4 l4.length y4] V fun e w' => (∃ v0_ : Value, e = .returned (.tuple #[v0_, .int .i64 s2]) ∧ Kd.R k80 80 w' V.heap.size (fun _ => True) v0_ s1) ∧ Below V.heap.size V w' :=
 (impl_Candidates.calls kf A0 c0 q0 A1 c1 q1 A2 c2 q2 A3 c3 q3 A4 c4 q4 A5 c5 q5 a1 X2 y2 l2 X3 y3 l3 X4 y4 l4 s1 s2 V (Kd.R_reads' h1.1).2.2 (Kd.R_reads' h1.1).2.1 (Kd.R_reads' h1.2.1).2.2 (Kd.R_reads' h1.2.1).2.1 (Kd.R_reads' h1.2.2.1).2.2 (Kd.R_reads' h1.2.2.1).2.1 (Kd.R_reads' h1.2.2.2.1).2.2 (Kd.R_reads' h1.2.2.2.1).2.1 (Kd.R_reads' h1.2.2.2.2.1).2.2 (Kd.R_reads' h1.2.2.2.2.1).2.1 (Kd.R_reads' h1.2.2.2.2.2).2.2 (Kd.R_reads' h1.2.2.2.2.2).2.1 hr2 hc2 hr3 hc3 hr4 hc4 h).mono (fun _ _ ⟨v, he, hr, hb⟩ => ⟨⟨v, he, hr⟩, hb⟩)
end
def lawC_T : Bool × List (List Nat × List Nat) := (true, [([], []), ([], []), ([1], [1]), ([0, 2, 2], [0, 2]), ([3], [3])])
def lawC_B : List Nat := [0, 0, 2, 7, 15]
theorem lawC_tab : rtab .any (opsOf Try.f7 20) = lawC_T := by kernel_rfl
theorem lawC_bits : waitsOk lawC_T.2 lawC_B = true := by kernel_rfl
theorem held_at (kf : Nat) (A : Option Addr) (c : Nat) (G : List S80) (n : Nat) (hn : G.length = n) (a r : Int) (w : World) (hR : Kd.C k80 w A G.length G) (hc : n ≤ c) (h : laws_heldRouteS.f kf G a = some r) : Calls Try.prog 22 #[.slice A n c, .int .i64 a] w fun e w' => e = .returned (.int .i64 r) ∧ Drawn0 w w' := by
 subst hn
 exact laws_heldRouteS.calls kf A c G a r w hR hc h
def laws_FnExactCandidates.f (kf : Nat) (l0_0 : List ByteArray) (l0_1 : List S107) (l0_2 : List Int) (l0_3 : List Int) (l0_4 : List S109) (l0_5 : List S111) (a1 : Int) (l2 : List Int) (l3 : List Bool) (l4 : List S103) : Option Bool :=
 if (l2.length : Int) > 1048576 then some true else
 if (l3.length : Int) > 1048576 then some true else
 (laws_szNet.f kf l0_0 l0_1 l0_2 l0_3 l0_4 l0_5 1048576).bind fun t => if t < 0 then some true else
 (laws_szRouteS.f l4 t).bind fun u4 => if u4 < 0 then some true else
 (laws_toNet.f kf l0_0 l0_1 l0_2 l0_3 l0_4 l0_5).bind fun q => (laws_toIntS.f kf l2).bind fun t2 => (laws_toBoolS.f kf l3).bind fun t3 => (laws_toRouteS.f kf l4).bind fun t4 => (spec_Candidates.f kf q.1 q.2.1 q.2.2.1 q.2.2.2.1 q.2.2.2.2.1 q.2.2.2.2.2 a1 t2 t3 t4).bind fun s => (impl_Candidates.f kf q.1 q.2.1 q.2.2.1 q.2.2.2.1 q.2.2.2.2.1 q.2.2.2.2.2 a1 t2 t3 t4).bind fun g => (laws_eqRouteS.f kf s.1 s.1).bind fun b1 => (laws_eqNet.f kf q.1 q.2.1 q.2.2.1 q.2.2.2.1 q.2.2.2.2.1 q.2.2.2.2.2 q.1 q.2.1 q.2.2.1 q.2.2.2.1 q.2.2.2.2.1 q.2.2.2.2.2).bind fun b2 => (laws_eqIntS.f kf t2 t2).bind fun b4 => (laws_eqBoolS.f kf t3 t3).bind fun b5 => (laws_eqRouteS.f kf t4 t4).bind fun b6 => (laws_markNet.f kf q.1 q.2.1 q.2.2.1 q.2.2.2.1 q.2.2.2.2.1 q.2.2.2.2.2 1).bind fun m => (laws_markIntS.f kf t2 m.1).bind fun y2 => (laws_markBoolS.f kf t3 y2.1).bind fun y3 => (laws_markRouteS.f kf t4 y3.1).bind fun y4 => (laws_markRouteS.f kf s.1 1).bind fun z => (laws_heldRouteS.f kf z.2 1).bind fun h =>
 if g = s ∧ b1 = true ∧ b2 = true ∧ b4 = true ∧ b5 = true ∧ b6 = true ∧ 0 ≤ y4.1 ∧ h = z.1 ∧ 0 ≤ z.1 ∧ z.2.length = s.1.length then some true else none
set_option maxHeartbeats 8000000 in
set_option maxRecDepth 100000 in
theorem laws_FnExactCandidates.calls (kf : Nat) (A0_0 : Option Addr) (c0_0 : Nat) (l0_0 : List ByteArray) (A0_1 : Option Addr) (c0_1 : Nat) (l0_1 : List S107) (A0_2 : Option Addr) (c0_2 : Nat) (l0_2 : List Int) (A0_3 : Option Addr) (c0_3 : Nat) (l0_3 : List Int) (A0_4 : Option Addr) (c0_4 : Nat) (l0_4 : List S109) (A0_5 : Option Addr) (c0_5 : Nat) (l0_5 : List S111) (a1 : Int) (A2 : Option Addr) (c2 : Nat) (l2 : List Int) (A3 : Option Addr) (c3 : Nat) (l3 : List Bool) (A4 : Option Addr) (c4 : Nat) (l4 : List S103) (r : Bool) (w : World) (hr0_0 : Kd.C Kd.string w A0_0 l0_0.length l0_0) (hc0_0 : l0_0.length ≤ c0_0) (hr0_1 : Kd.C k107 w A0_1 l0_1.length l0_1) (hc0_1 : l0_1.length ≤ c0_1) (hr0_2 : Kd.C (Kd.int .i64) w A0_2 l0_2.length l0_2) (hc0_2 : l0_2.length ≤ c0_2) (hr0_3 : Kd.C (Kd.int .i64) w A0_3 l0_3.length l0_3) (hc0_3 : l0_3.length ≤ c0_3) (hr0_4 : Kd.C k109 w A0_4 l0_4.length l0_4) (hc0_4 : l0_4.length ≤ c0_4) (hr0_5 : Kd.C k111 w A0_5 l0_5.length l0_5) (hc0_5 : l0_5.length ≤ c0_5) (hr2 : Kd.C (Kd.int .i64) w A2 l2.length l2) (hc2 : l2.length ≤ c2) (hr3 : Kd.C Kd.bool w A3 l3.length l3) (hc3 : l3.length ≤ c3) (hr4 : Kd.C k103 w A4 l4.length l4) (hc4 : l4.length ≤ c4) (h : laws_FnExactCandidates.f kf l0_0 l0_1 l0_2 l0_3 l0_4 l0_5 a1 l2 l3 l4 = some r) :
  Calls Try.prog 7 #[.agg #[.slice A0_0 l0_0.length c0_0, .slice A0_1 l0_1.length c0_1, .slice A0_2 l0_2.length c0_2, .slice A0_3 l0_3.length c0_3, .slice A0_4 l0_4.length c0_4, .slice A0_5 l0_5.length c0_5], .int .i64 a1, .slice A2 l2.length c2, .slice A3 l3.length c3, .slice A4 l4.length c4] w fun e w' => e = .returned (.bool r) ∧ Below w.heap.size w w' := by
 have hu28 := Try.underlying28
 have hu38 := Try.underlying38
 unfold laws_FnExactCandidates.f at h
 have hb1 : Below w.heap.size w (w.alloc (.cells #[.slice A0_0 l0_0.length c0_0, .slice A0_1 l0_1.length c0_1, .slice A0_2 l0_2.length c0_2, .slice A0_3 l0_3.length c0_3, .slice A0_4 l0_4.length c0_4, .slice A0_5 l0_5.length c0_5] 28)) := (Below.refl _ _).alloc (Nat.le_refl _) _
 have hW : (w.alloc (.cells #[.slice A0_0 l0_0.length c0_0, .slice A0_1 l0_1.length c0_1, .slice A0_2 l0_2.length c0_2, .slice A0_3 l0_3.length c0_3, .slice A0_4 l0_4.length c0_4, .slice A0_5 l0_5.length c0_5] 28)).heap[w.heap.size]? = some (.cells #[.slice A0_0 l0_0.length c0_0, .slice A0_1 l0_1.length c0_1, .slice A0_2 l0_2.length c0_2, .slice A0_3 l0_3.length c0_3, .slice A0_4 l0_4.length c0_4, .slice A0_5 l0_5.length c0_5] 28 (0, 0)) := by
  show (w.heap.push _)[w.heap.size]? = _
  simp
 obtain ⟨W1, hW1, BX, HB1⟩ : ∃ W1, w.alloc (.cells #[.slice A0_0 l0_0.length c0_0, .slice A0_1 l0_1.length c0_1, .slice A0_2 l0_2.length c0_2, .slice A0_3 l0_3.length c0_3, .slice A0_4 l0_4.length c0_4, .slice A0_5 l0_5.length c0_5] 28) = W1 ∧ W1.heap[w.heap.size]? = some (.cells #[.slice A0_0 l0_0.length c0_0, .slice A0_1 l0_1.length c0_1, .slice A0_2 l0_2.length c0_2, .slice A0_3 l0_3.length c0_3, .slice A0_4 l0_4.length c0_4, .slice A0_5 l0_5.length c0_5] 28 (0, 0)) ∧ Below w.heap.size w W1 := ⟨_, rfl, hW, hb1⟩
 have FA := aM (foot_and (foot_blk (ok := fun k_ => k_ < W1.heap.size) BX (blk_lt BX)) (foot_and (foot_C Kd.heap_string (Kd.C_below hr0_0 HB1)) (foot_and (foot_C heap107 (Kd.C_below hr0_1 HB1)) (foot_and (foot_C (Kd.heap_int .i64) (Kd.C_below hr0_2 HB1)) (foot_and (foot_C (Kd.heap_int .i64) (Kd.C_below hr0_3 HB1)) (foot_and (foot_C heap109 (Kd.C_below hr0_4 HB1)) (foot_and (foot_C heap111 (Kd.C_below hr0_5 HB1)) (foot_and (foot_C (Kd.heap_int .i64) (Kd.C_below hr2 HB1)) (foot_and (foot_C Kd.heap_bool (Kd.C_below hr3 HB1)) (foot_C heap103 (Kd.C_below hr4 HB1)))))))))))
 have HB := aM HB1
 have HQ := aM (Nat.le_refl W1.heap.size)
 have HW1 := aM hW1
 clear hb1 hW hW1 BX HB1 hr0_0 hr0_1 hr0_2 hr0_3 hr0_4 hr0_5 hr2 hr3 hr4
 by_cases hbig2 : (l2.length : Int) > 1048576
 ·rw [if_pos hbig2] at h
  obtain rfl := Option.some.inj h
  clear h
  go_enter Try.func7, Try.ntmps7
  go_wp2
  go_ret
  exact ⟨rfl, by rw [HW1.out]; exact HB.out⟩
 rw [if_neg hbig2] at h
 by_cases hbig3 : (l3.length : Int) > 1048576
 ·rw [if_pos hbig3] at h
  obtain rfl := Option.some.inj h
  clear h
  go_enter Try.func7, Try.ntmps7
  go_wp2
  go_ret
  exact ⟨rfl, by rw [HW1.out]; exact HB.out⟩
 rw [if_neg hbig3] at h
 replace h := Option.bind_eq_some_iff.1 h
 obtain ⟨t, hsz, h⟩ := h
 by_cases h_t : t < 0
 ·rw [if_pos h_t] at h
  obtain rfl := Option.some.inj h
  clear h
  go_enter Try.func7, Try.ntmps7
  go_upto_region 6 with fail
  rw [HW1.out]
  clear HW1
  obtain ⟨hx0, hx1, hx2, hx3, hx4, hx5⟩ := box6 FA.out.now.1
  go_wp2_with ((go_at_call 8; (with_reducible refine (laws_szNet.calls kf A0_0 c0_0 l0_0 A0_1 c0_1 l0_1 A0_2 c0_2 l0_2 A0_3 c0_3 l0_3 A0_4 c0_4 l0_4 A0_5 c0_5 l0_5 1048576 t W1 FA.out.now.2.1 hc0_0 FA.out.now.2.2.1 hc0_1 FA.out.now.2.2.2.1 hc0_2 FA.out.now.2.2.2.2.1 hc0_3 FA.out.now.2.2.2.2.2.1 hc0_4 FA.out.now.2.2.2.2.2.2.1 hc0_5 hsz).mono ?_); rintro e w2 ⟨rfl, hb⟩; clear hx0 hx1 hx2 hx3 hx4 hx5; have mFA_ := aM (foot_below FA.out hb); have mB_ := aB HB hb; have mQ_ := aM (Nat.le_trans HQ.out hb.size); clear FA HB HQ; have FA := mFA_; have HB := mB_; have HQ := mQ_; clear mFA_ mB_ mQ_; obtain ⟨hx0, hx1, hx2, hx3, hx4, hx5⟩ := box6 FA.out.now.1; clear hb))
  go_ret
  exact ⟨rfl, HB.out⟩
 rw [if_neg h_t] at h
 replace h := Option.bind_eq_some_iff.1 h
 obtain ⟨u4, hsz4, h⟩ := h
 by_cases h_u4 : u4 < 0
 ·rw [if_pos h_u4] at h
  obtain rfl := Option.some.inj h
  clear h
  go_enter Try.func7, Try.ntmps7
  go_upto_region 6 with fail
  rw [HW1.out]
  clear HW1
  obtain ⟨hx0, hx1, hx2, hx3, hx4, hx5⟩ := box6 FA.out.now.1
  go_wp2_with (first | (go_at_call 8; (with_reducible refine (laws_szNet.calls kf A0_0 c0_0 l0_0 A0_1 c0_1 l0_1 A0_2 c0_2 l0_2 A0_3 c0_3 l0_3 A0_4 c0_4 l0_4 A0_5 c0_5 l0_5 1048576 t W1 FA.out.now.2.1 hc0_0 FA.out.now.2.2.1 hc0_1 FA.out.now.2.2.2.1 hc0_2 FA.out.now.2.2.2.2.1 hc0_3 FA.out.now.2.2.2.2.2.1 hc0_4 FA.out.now.2.2.2.2.2.2.1 hc0_5 hsz).mono ?_); rintro e w2 ⟨rfl, hb⟩; clear hx0 hx1 hx2 hx3 hx4 hx5; have mFA_ := aM (foot_below FA.out hb); have mB_ := aB HB hb; have mQ_ := aM (Nat.le_trans HQ.out hb.size); clear FA HB HQ; have FA := mFA_; have HB := mB_; have HQ := mQ_; clear mFA_ mB_ mQ_; obtain ⟨hx0, hx1, hx2, hx3, hx4, hx5⟩ := box6 FA.out.now.1; clear hb) | (go_at_call 28; (with_reducible refine (laws_szRouteS.calls A4 c4 l4 t u4 _ FA.out.now.2.2.2.2.2.2.2.2.2 hc4 hsz4).mono ?_); rintro e w24 ⟨rfl, hd⟩; have hb := drawn_below hd; clear hd; clear hx0 hx1 hx2 hx3 hx4 hx5; have mFA_ := aM (foot_below FA.out hb); have mB_ := aB HB hb; have mQ_ := aM (Nat.le_trans HQ.out hb.size); clear FA HB HQ; have FA := mFA_; have HB := mB_; have HQ := mQ_; clear mFA_ mB_ mQ_; obtain ⟨hx0, hx1, hx2, hx3, hx4, hx5⟩ := box6 FA.out.now.1; clear hb))
  go_ret
  exact ⟨rfl, HB.out⟩
 rw [if_neg h_u4] at h
 replace h := Option.bind_eq_some_iff.1 h
 obtain ⟨⟨q0, q1, q2, q3, q4, q5⟩, hto, h⟩ := h
 replace h := Option.bind_eq_some_iff.1 h
 obtain ⟨t2, ht2, h⟩ := h
 replace h := Option.bind_eq_some_iff.1 h
 obtain ⟨t3, ht3, h⟩ := h
 replace h := Option.bind_eq_some_iff.1 h
 obtain ⟨t4, ht4, h⟩ := h
 replace h := Option.bind_eq_some_iff.1 h
 obtain ⟨⟨s1, s2⟩, hsp, h⟩ := h
 replace h := Option.bind_eq_some_iff.1 h
 obtain ⟨g, him, h⟩ := h
 replace h := Option.bind_eq_some_iff.1 h
 obtain ⟨b1, heb, h⟩ := h
 replace h := Option.bind_eq_some_iff.1 h
 obtain ⟨b2, hen, h⟩ := h
 replace h := Option.bind_eq_some_iff.1 h
 obtain ⟨b4, he2, h⟩ := h
 replace h := Option.bind_eq_some_iff.1 h
 obtain ⟨b5, he3, h⟩ := h
 replace h := Option.bind_eq_some_iff.1 h
 obtain ⟨b6, he4, h⟩ := h
 replace h := Option.bind_eq_some_iff.1 h
 obtain ⟨⟨m0, n0, n1, n2, n3, n4, n5⟩, hmn, h⟩ := h
 replace h := Option.bind_eq_some_iff.1 h
 obtain ⟨⟨m1, tm2⟩, hm2, h⟩ := h
 replace h := Option.bind_eq_some_iff.1 h
 obtain ⟨⟨m2, tm3⟩, hm3, h⟩ := h
 replace h := Option.bind_eq_some_iff.1 h
 obtain ⟨⟨m3, tm4⟩, hm4, h⟩ := h
 replace h := Option.bind_eq_some_iff.1 h
 obtain ⟨⟨hz, G⟩, hmg, h⟩ := h
 replace h := Option.bind_eq_some_iff.1 h
 obtain ⟨hh, hhb, h⟩ := h
 simp only at hsp him heb hen hmn he2 he3 he4 hm2 hm3 hm4 hmg hhb h
 by_cases hc : g = (s1, s2) ∧ b1 = true ∧ b2 = true ∧ b4 = true ∧ b5 = true ∧ b6 = true ∧ 0 ≤ m3 ∧ hh = hz ∧ 0 ≤ hz ∧ G.length = s1.length
 rotate_left
 ·rw [if_neg hc] at h
  cases h
 rw [if_pos hc] at h
 obtain ⟨rfl, rfl, rfl, rfl, rfl, rfl, hk0, hhz, hk1, hGl⟩ := hc
 subst hhz
 obtain rfl := Option.some.inj h
 clear h
 have hne2 : (s2 != s2) = false := by simp
 have hne3 : (hh != hh) = false := by simp
 have hnk : ¬ m3 < 0 := by omega
 have hnh : ¬ hh < 0 := by omega
 clear hk0 hk1
 go_enter Try.func7, Try.ntmps7
 go_upto_region 6 with fail
 rw [HW1.out]
 clear HW1
 obtain ⟨hx0, hx1, hx2, hx3, hx4, hx5⟩ := box6 FA.out.now.1
 go_upto_region 12 with (first | (go_at_call 8; (with_reducible refine (laws_szNet.calls kf A0_0 c0_0 l0_0 A0_1 c0_1 l0_1 A0_2 c0_2 l0_2 A0_3 c0_3 l0_3 A0_4 c0_4 l0_4 A0_5 c0_5 l0_5 1048576 t W1 FA.out.now.2.1 hc0_0 FA.out.now.2.2.1 hc0_1 FA.out.now.2.2.2.1 hc0_2 FA.out.now.2.2.2.2.1 hc0_3 FA.out.now.2.2.2.2.2.1 hc0_4 FA.out.now.2.2.2.2.2.2.1 hc0_5 hsz).mono ?_); rintro e w2 ⟨rfl, hb⟩; clear hx0 hx1 hx2 hx3 hx4 hx5; have mFA_ := aM (foot_below FA.out hb); have mB_ := aB HB hb; have mQ_ := aM (Nat.le_trans HQ.out hb.size); clear FA HB HQ; have FA := mFA_; have HB := mB_; have HQ := mQ_; clear mFA_ mB_ mQ_; obtain ⟨hx0, hx1, hx2, hx3, hx4, hx5⟩ := box6 FA.out.now.1; clear hb) | (go_at_call 28; (with_reducible refine (laws_szRouteS.calls A4 c4 l4 t u4 _ FA.out.now.2.2.2.2.2.2.2.2.2 hc4 hsz4).mono ?_); rintro e w24 ⟨rfl, hd⟩; have hb := drawn_below hd; clear hd; clear hx0 hx1 hx2 hx3 hx4 hx5; have mFA_ := aM (foot_below FA.out hb); have mB_ := aB HB hb; have mQ_ := aM (Nat.le_trans HQ.out hb.size); clear FA HB HQ; have FA := mFA_; have HB := mB_; have HQ := mQ_; clear mFA_ mB_ mQ_; obtain ⟨hx0, hx1, hx2, hx3, hx4, hx5⟩ := box6 FA.out.now.1; clear hb))
 go_upto_region 13 with (first | (go_at_call 10; (with_reducible refine (toNet_any (kf := kf) w.heap.size HB.out.size A0_0 c0_0 l0_0 A0_1 c0_1 l0_1 A0_2 c0_2 l0_2 A0_3 c0_3 l0_3 A0_4 c0_4 l0_4 A0_5 c0_5 l0_5 q0 q1 q2 q3 q4 q5 FA.out.now.2.1 hc0_0 FA.out.now.2.2.1 hc0_1 FA.out.now.2.2.2.1 hc0_2 FA.out.now.2.2.2.2.1 hc0_3 FA.out.now.2.2.2.2.2.1 hc0_4 FA.out.now.2.2.2.2.2.2.1 hc0_5 hto).mono ?_); rintro e w3a ⟨A3_0, c3_0, A3_1, c3_1, A3_2, c3_2, A3_3, c3_3, A3_4, c3_4, A3_5, c3_5, rfl, hN_, -, hb⟩; clear hx0 hx1 hx2 hx3 hx4 hx5; have mFA_ := aM (foot_below FA.out hb); have mB_ := aB HB hb; have mQ_ := aM (Nat.le_trans HQ.out hb.size); clear FA HB HQ; have FA := mFA_; have HB := mB_; have HQ := mQ_; clear mFA_ mB_ mQ_; obtain ⟨hx0, hx1, hx2, hx3, hx4, hx5⟩ := box6 FA.out.now.1; clear hb; have HN3 := aM (NP.foot hN_); clear hN_) | (go_at_call 11; (with_reducible refine (laws_toIntS.calls kf A2 c2 l2 t2 _ FA.out.now.2.2.2.2.2.2.2.1 hc2 ht2).mono ?_); rintro e w3r2 ⟨v3, rfl, hR_, hb⟩; clear hx0 hx1 hx2 hx3 hx4 hx5; have mFA_ := aM (foot_below FA.out hb); have mHN3_ := aM (foot_below HN3.out hb); have mB_ := aB HB hb; have mQ_ := aM (Nat.le_trans HQ.out hb.size); clear FA HN3 HB HQ; have FA := mFA_; have HN3 := mHN3_; have HB := mB_; have HQ := mQ_; clear mFA_ mHN3_ mB_ mQ_; obtain ⟨hx0, hx1, hx2, hx3, hx4, hx5⟩ := box6 FA.out.now.1; clear hb; obtain ⟨A3_r2, c3_r2, ev_⟩ := Kd.R_slice hR_; subst ev_; have HR3_2 := aM (foot_R hR_); clear hR_) | (go_at_call 12; (with_reducible refine (laws_toBoolS.calls kf A3 c3 l3 t3 _ FA.out.now.2.2.2.2.2.2.2.2.1 hc3 ht3).mono ?_); rintro e w3r3 ⟨v3, rfl, hR_, hb⟩; clear hx0 hx1 hx2 hx3 hx4 hx5; have mFA_ := aM (foot_below FA.out hb); have mHN3_ := aM (foot_below HN3.out hb); have mHR3_2_ := aM (foot_below HR3_2.out hb); have mB_ := aB HB hb; have mQ_ := aM (Nat.le_trans HQ.out hb.size); clear FA HN3 HR3_2 HB HQ; have FA := mFA_; have HN3 := mHN3_; have HR3_2 := mHR3_2_; have HB := mB_; have HQ := mQ_; clear mFA_ mHN3_ mHR3_2_ mB_ mQ_; obtain ⟨hx0, hx1, hx2, hx3, hx4, hx5⟩ := box6 FA.out.now.1; clear hb; obtain ⟨A3_r3, c3_r3, ev_⟩ := Kd.R_slice hR_; subst ev_; have HR3_3 := aM (foot_R hR_); clear hR_) | (go_at_call 30; (with_reducible refine (laws_toRouteS.calls kf A4 c4 l4 t4 _ FA.out.now.2.2.2.2.2.2.2.2.2 hc4 ht4).mono ?_); rintro e w3r4 ⟨v3, rfl, hR_, hb⟩; clear hx0 hx1 hx2 hx3 hx4 hx5; have mFA_ := aM (foot_below FA.out hb); have mHN3_ := aM (foot_below HN3.out hb); have mHR3_2_ := aM (foot_below HR3_2.out hb); have mHR3_3_ := aM (foot_below HR3_3.out hb); have mB_ := aB HB hb; have mQ_ := aM (Nat.le_trans HQ.out hb.size); clear FA HN3 HR3_2 HR3_3 HB HQ; have FA := mFA_; have HN3 := mHN3_; have HR3_2 := mHR3_2_; have HR3_3 := mHR3_3_; have HB := mB_; have HQ := mQ_; clear mFA_ mHN3_ mHR3_2_ mHR3_3_ mB_ mQ_; obtain ⟨hx0, hx1, hx2, hx3, hx4, hx5⟩ := box6 FA.out.now.1; clear hb; obtain ⟨A3_r4, c3_r4, ev_⟩ := Kd.R_slice hR_; subst ev_; have HR3_4 := aM (foot_R hR_); clear hR_) | (go_at_call 32; (with_reducible refine (spec_Candidates_any (kf := kf) HN3.out.now (Kd.R_reads' HR3_2.out.now).2.2 (Kd.R_reads' HR3_2.out.now).2.1 (Kd.R_reads' HR3_3.out.now).2.2 (Kd.R_reads' HR3_3.out.now).2.1 (Kd.R_reads' HR3_4.out.now).2.2 (Kd.R_reads' HR3_4.out.now).2.1 hsp).mono ?_); rintro e w4 ⟨⟨v4, rfl, hR4⟩, hb⟩; have HB3 := HB; clear HN3 HR3_2 HR3_3 HR3_4; clear hx0 hx1 hx2 hx3 hx4 hx5; have mFA_ := aM (foot_below FA.out hb); have mB_ := aB HB hb; have mQ_ := aM (Nat.le_trans HQ.out hb.size); clear FA HB HQ; have FA := mFA_; have HB := mB_; have HQ := mQ_; clear mFA_ mB_ mQ_; obtain ⟨hx0, hx1, hx2, hx3, hx4, hx5⟩ := box6 FA.out.now.1; clear hb; obtain ⟨A9, c9, ev4⟩ := Kd.R_slice hR4; subst ev4; have FW := aM (foot_R (Kd.R_mono (ok' := fun k_ => k_ < w4.heap.size) (Kd.R_bound (Kd.R_lower hR4 HB3.out.size)) (fun k_ hk_ => hk_.2.2.1))); clear hR4 HB3))
 go_upto_region 14 with (go_at_call 10; (with_reducible refine (toNet_any (kf := kf) w.heap.size HB.out.size A0_0 c0_0 l0_0 A0_1 c0_1 l0_1 A0_2 c0_2 l0_2 A0_3 c0_3 l0_3 A0_4 c0_4 l0_4 A0_5 c0_5 l0_5 q0 q1 q2 q3 q4 q5 FA.out.now.2.1 hc0_0 FA.out.now.2.2.1 hc0_1 FA.out.now.2.2.2.1 hc0_2 FA.out.now.2.2.2.2.1 hc0_3 FA.out.now.2.2.2.2.2.1 hc0_4 FA.out.now.2.2.2.2.2.2.1 hc0_5 hto).mono ?_); rintro e w5 ⟨A5_0, c5_0, A5_1, c5_1, A5_2, c5_2, A5_3, c5_3, A5_4, c5_4, A5_5, c5_5, rfl, hN_, hap, hb⟩; have HS5 := aM (NP.foot hN_); have HAP := aM hap; clear hN_ hap; have HL5 := aM hb.size; have HLE := aM HQ.out; clear hx0 hx1 hx2 hx3 hx4 hx5; have mFA_ := aM (foot_below FA.out hb); have mFW_ := aM (foot_below FW.out hb); have mB_ := aB HB hb; have mQ_ := aM (Nat.le_trans HQ.out hb.size); clear FA FW HB HQ; have FA := mFA_; have FW := mFW_; have HB := mB_; have HQ := mQ_; clear mFA_ mFW_ mB_ mQ_; obtain ⟨hx0, hx1, hx2, hx3, hx4, hx5⟩ := box6 FA.out.now.1; clear hb)
 have hb6 := (below_alloc (Below.refl w5.heap.size w5) (.cells #[.slice A5_0 q0.length c5_0, .slice A5_1 q1.length c5_1, .slice A5_2 q2.length c5_2, .slice A5_3 q3.length c5_3, .slice A5_4 q4.length c5_4, .slice A5_5 q5.length c5_5] 38))
 have hg6 := blk_new w5 (.cells #[.slice A5_0 q0.length c5_0, .slice A5_1 q1.length c5_1, .slice A5_2 q2.length c5_2, .slice A5_3 q3.length c5_3, .slice A5_4 q4.length c5_4, .slice A5_5 q5.length c5_5] 38)
 generalize w5.alloc (.cells #[.slice A5_0 q0.length c5_0, .slice A5_1 q1.length c5_1, .slice A5_2 q2.length c5_2, .slice A5_3 q3.length c5_3, .slice A5_4 q4.length c5_4, .slice A5_5 q5.length c5_5] 38) = w6 at hb6 hg6 ⊢
 have HG6 := aM (foot_blk (ok := fun k_ => w4.heap.size ≤ k_ ∧ k_ < w6.heap.size) hg6 ⟨HL5.out, blk_lt hg6⟩)
 obtain ⟨hgx0, hgx1, hgx2, hgx3, hgx4, hgx5⟩ := box6 hg6
 have H6 := aM hb6.size
 clear hx0 hx1 hx2 hx3 hx4 hx5
 have mFA_ := aM (foot_below FA.out hb6)
 have mFW_ := aM (foot_below FW.out hb6)
 have mHS5_ := aM (foot_below HS5.out hb6)
 have mB_ := aM (HB.out.trans (hb6.mono HB.out.size))
 have mQ_ := aM (Nat.le_trans HQ.out hb6.size)
 clear FA FW HS5 HB HQ
 have FA := mFA_
 have FW := mFW_
 have HS5 := mHS5_
 have HB := mB_
 have HQ := mQ_
 clear mFA_ mFW_ mHS5_ mB_ mQ_
 obtain ⟨hx0, hx1, hx2, hx3, hx4, hx5⟩ := box6 FA.out.now.1
 clear hb6 hg6
 go_upto_region 15 with (go_at_call 11; (with_reducible refine (laws_toIntS.calls kf A2 c2 l2 t2 _ FA.out.now.2.2.2.2.2.2.2.1 hc2 ht2).mono ?_); rintro e wx2 ⟨v6, rfl, hR6, hb⟩; have HX2 := aM (foot_R (Kd.R_lower (Kd.R_mono (ok' := fun k_ => w6.heap.size ≤ k_ ∧ k_ < wx2.heap.size) (Kd.R_bound hR6) (fun k_ hk_ => ⟨hk_.2.1, hk_.2.2.1⟩)) HB.out.size)); have HZ2 := aM hb.size; clear hx0 hx1 hx2 hx3 hx4 hx5; clear hgx0 hgx1 hgx2 hgx3 hgx4 hgx5; have mFA_ := aM (foot_below FA.out hb); have mFW_ := aM (foot_below FW.out hb); have mHS5_ := aM (foot_below HS5.out hb); have mHG6_ := aM (foot_below HG6.out hb); have mB_ := aB HB hb; have mQ_ := aM (Nat.le_trans HQ.out hb.size); clear FA FW HS5 HG6 HB HQ; have FA := mFA_; have FW := mFW_; have HS5 := mHS5_; have HG6 := mHG6_; have HB := mB_; have HQ := mQ_; clear mFA_ mFW_ mHS5_ mHG6_ mB_ mQ_; obtain ⟨hx0, hx1, hx2, hx3, hx4, hx5⟩ := box6 FA.out.now.1; obtain ⟨hgx0, hgx1, hgx2, hgx3, hgx4, hgx5⟩ := box6 HG6.out.now; clear hb; obtain ⟨A6_2, c6_2, ev6⟩ := Kd.R_slice hR6; clear hR6; subst ev6)
 go_upto_region 16 with (go_at_call 12; (with_reducible refine (laws_toBoolS.calls kf A3 c3 l3 t3 _ FA.out.now.2.2.2.2.2.2.2.2.1 hc3 ht3).mono ?_); rintro e wx3 ⟨v6, rfl, hR6, hb⟩; have HX3 := aM (foot_R (Kd.R_lower (Kd.R_mono (ok' := fun k_ => wx2.heap.size ≤ k_ ∧ k_ < wx3.heap.size) (Kd.R_bound hR6) (fun k_ hk_ => ⟨hk_.2.1, hk_.2.2.1⟩)) HB.out.size)); have HZ3 := aM hb.size; clear hx0 hx1 hx2 hx3 hx4 hx5; clear hgx0 hgx1 hgx2 hgx3 hgx4 hgx5; have mFA_ := aM (foot_below FA.out hb); have mFW_ := aM (foot_below FW.out hb); have mHS5_ := aM (foot_below HS5.out hb); have mHG6_ := aM (foot_below HG6.out hb); have mHX2_ := aM (foot_below HX2.out hb); have mB_ := aB HB hb; have mQ_ := aM (Nat.le_trans HQ.out hb.size); clear FA FW HS5 HG6 HX2 HB HQ; have FA := mFA_; have FW := mFW_; have HS5 := mHS5_; have HG6 := mHG6_; have HX2 := mHX2_; have HB := mB_; have HQ := mQ_; clear mFA_ mFW_ mHS5_ mHG6_ mHX2_ mB_ mQ_; obtain ⟨hx0, hx1, hx2, hx3, hx4, hx5⟩ := box6 FA.out.now.1; obtain ⟨hgx0, hgx1, hgx2, hgx3, hgx4, hgx5⟩ := box6 HG6.out.now; clear hb; obtain ⟨A6_3, c6_3, ev6⟩ := Kd.R_slice hR6; clear hR6; subst ev6)
 go_upto_region 17 with (go_at_call 30; (with_reducible refine (laws_toRouteS.calls kf A4 c4 l4 t4 _ FA.out.now.2.2.2.2.2.2.2.2.2 hc4 ht4).mono ?_); rintro e wx4 ⟨v6, rfl, hR6, hb⟩; have HX4 := aM (foot_R (Kd.R_lower (Kd.R_mono (ok' := fun k_ => wx3.heap.size ≤ k_ ∧ k_ < wx4.heap.size) (Kd.R_bound hR6) (fun k_ hk_ => ⟨hk_.2.1, hk_.2.2.1⟩)) HB.out.size)); have HZ4 := aM hb.size; clear hx0 hx1 hx2 hx3 hx4 hx5; clear hgx0 hgx1 hgx2 hgx3 hgx4 hgx5; have mFA_ := aM (foot_below FA.out hb); have mFW_ := aM (foot_below FW.out hb); have mHS5_ := aM (foot_below HS5.out hb); have mHG6_ := aM (foot_below HG6.out hb); have mHX2_ := aM (foot_below HX2.out hb); have mHX3_ := aM (foot_below HX3.out hb); have mB_ := aB HB hb; have mQ_ := aM (Nat.le_trans HQ.out hb.size); clear FA FW HS5 HG6 HX2 HX3 HB HQ; have FA := mFA_; have FW := mFW_; have HS5 := mHS5_; have HG6 := mHG6_; have HX2 := mHX2_; have HX3 := mHX3_; have HB := mB_; have HQ := mQ_; clear mFA_ mFW_ mHS5_ mHG6_ mHX2_ mHX3_ mB_ mQ_; obtain ⟨hx0, hx1, hx2, hx3, hx4, hx5⟩ := box6 FA.out.now.1; obtain ⟨hgx0, hgx1, hgx2, hgx3, hgx4, hgx5⟩ := box6 HG6.out.now; clear hb; obtain ⟨A6_4, c6_4, ev6⟩ := Kd.R_slice hR6; clear hR6; subst ev6)
 go_upto_region 18 with (go_at_call 33; (with_reducible refine (impl_Candidates_any (kf := kf) HS5.out.now (Kd.R_reads' HX2.out.now).2.2 (Kd.R_reads' HX2.out.now).2.1 (Kd.R_reads' HX3.out.now).2.2 (Kd.R_reads' HX3.out.now).2.1 (Kd.R_reads' HX4.out.now).2.2 (Kd.R_reads' HX4.out.now).2.1 him).mono ?_); rintro e w8 ⟨⟨v7, rfl, hR7⟩, hb⟩; have HR7 := aM (foot_R (Kd.R_lower (Kd.R_mono (ok' := fun k_ => wx4.heap.size ≤ k_) (Kd.R_bound hR7) (fun k_ hk_ => hk_.2.1)) HB.out.size)); clear hx0 hx1 hx2 hx3 hx4 hx5; clear hgx0 hgx1 hgx2 hgx3 hgx4 hgx5; have mFA_ := aM (foot_below FA.out hb); have mFW_ := aM (foot_below FW.out hb); have mHS5_ := aM (foot_below HS5.out hb); have mHG6_ := aM (foot_below HG6.out hb); have mHX2_ := aM (foot_below HX2.out hb); have mHX3_ := aM (foot_below HX3.out hb); have mHX4_ := aM (foot_below HX4.out hb); have mB_ := aB HB hb; have mQ_ := aM (Nat.le_trans HQ.out hb.size); clear FA FW HS5 HG6 HX2 HX3 HX4 HB HQ; have FA := mFA_; have FW := mFW_; have HS5 := mHS5_; have HG6 := mHG6_; have HX2 := mHX2_; have HX3 := mHX3_; have HX4 := mHX4_; have HB := mB_; have HQ := mQ_; clear mFA_ mFW_ mHS5_ mHG6_ mHX2_ mHX3_ mHX4_ mB_ mQ_; obtain ⟨hx0, hx1, hx2, hx3, hx4, hx5⟩ := box6 FA.out.now.1; obtain ⟨hgx0, hgx1, hgx2, hgx3, hgx4, hgx5⟩ := box6 HG6.out.now; clear hb; obtain ⟨A7, c7, ev7⟩ := Kd.R_slice hR7; clear hR7; subst ev7)
 go_upto_region 20 with (go_at_call 14; (with_reducible refine (laws_eqRouteS.calls kf A7 c7 s1 A9 c9 s1 true _ (Kd.R_reads' HR7.out.now).2.2 (Kd.R_reads' HR7.out.now).2.1 (Kd.R_reads' FW.out.now).2.2 (Kd.R_reads' FW.out.now).2.1 heb).mono ?_); rintro e w9 ⟨rfl, hb⟩; clear hx0 hx1 hx2 hx3 hx4 hx5; clear hgx0 hgx1 hgx2 hgx3 hgx4 hgx5; have mFA_ := aM (foot_below FA.out hb); have mFW_ := aM (foot_below FW.out hb); have mHS5_ := aM (foot_below HS5.out hb); have mHG6_ := aM (foot_below HG6.out hb); have mHX2_ := aM (foot_below HX2.out hb); have mHX3_ := aM (foot_below HX3.out hb); have mHX4_ := aM (foot_below HX4.out hb); have mHR7_ := aM (foot_below HR7.out hb); have mB_ := aB HB hb; have mQ_ := aM (Nat.le_trans HQ.out hb.size); clear FA FW HS5 HG6 HX2 HX3 HX4 HR7 HB HQ; have FA := mFA_; have FW := mFW_; have HS5 := mHS5_; have HG6 := mHG6_; have HX2 := mHX2_; have HX3 := mHX3_; have HX4 := mHX4_; have HR7 := mHR7_; have HB := mB_; have HQ := mQ_; clear mFA_ mFW_ mHS5_ mHG6_ mHX2_ mHX3_ mHX4_ mHR7_ mB_ mQ_; obtain ⟨hx0, hx1, hx2, hx3, hx4, hx5⟩ := box6 FA.out.now.1; obtain ⟨hgx0, hgx1, hgx2, hgx3, hgx4, hgx5⟩ := box6 HG6.out.now; clear hb)
 have hbd := below_drew (Below.refl w9.heap.size w9)
 clear hx0 hx1 hx2 hx3 hx4 hx5 hgx0 hgx1 hgx2 hgx3 hgx4 hgx5
 have mFA_ := aM (foot_below FA.out hbd)
 have mFW_ := aM (foot_below FW.out hbd)
 have mHS5_ := aM (foot_below HS5.out hbd)
 have mHG6_ := aM (foot_below HG6.out hbd)
 have mHX2_ := aM (foot_below HX2.out hbd)
 have mHX3_ := aM (foot_below HX3.out hbd)
 have mHX4_ := aM (foot_below HX4.out hbd)
 have mHR7_ := aM (foot_below HR7.out hbd)
 have mB_ := aM (HB.out.trans (hbd.mono HB.out.size))
 have mQ_ := aM (Nat.le_trans HQ.out hbd.size)
 clear FA FW HS5 HG6 HX2 HX3 HX4 HR7 HB HQ
 have FA := mFA_
 have FW := mFW_
 have HS5 := mHS5_
 have HG6 := mHG6_
 have HX2 := mHX2_
 have HX3 := mHX3_
 have HX4 := mHX4_
 have HR7 := mHR7_
 have HB := mB_
 have HQ := mQ_
 clear mFA_ mFW_ mHS5_ mHG6_ mHX2_ mHX3_ mHX4_ mHR7_ mB_ mQ_
 obtain ⟨hx0, hx1, hx2, hx3, hx4, hx5⟩ := box6 FA.out.now.1
 obtain ⟨hgx0, hgx1, hgx2, hgx3, hgx4, hgx5⟩ := box6 HG6.out.now
 clear hbd
 generalize hw9 : w9.drew = w10 at *
 refine start_ (n := 5) (S := fun w' => w'.cell? ⟨w.heap.size, 0, none⟩ = some (.slice A0_0 l0_0.length c0_0) ∧ w'.cell? ⟨w.heap.size, 1, none⟩ = some (.slice A0_1 l0_1.length c0_1) ∧ w'.cell? ⟨w.heap.size, 2, none⟩ = some (.slice A0_2 l0_2.length c0_2) ∧ w'.cell? ⟨w.heap.size, 3, none⟩ = some (.slice A0_3 l0_3.length c0_3) ∧ w'.cell? ⟨w.heap.size, 4, none⟩ = some (.slice A0_4 l0_4.length c0_4) ∧ w'.cell? ⟨w.heap.size, 5, none⟩ = some (.slice A0_5 l0_5.length c0_5) ∧ w'.cell? ⟨w5.heap.size, 0, none⟩ = some (.slice A5_0 q0.length c5_0) ∧ w'.cell? ⟨w5.heap.size, 1, none⟩ = some (.slice A5_1 q1.length c5_1) ∧ w'.cell? ⟨w5.heap.size, 2, none⟩ = some (.slice A5_2 q2.length c5_2) ∧ w'.cell? ⟨w5.heap.size, 3, none⟩ = some (.slice A5_3 q3.length c5_3) ∧ w'.cell? ⟨w5.heap.size, 4, none⟩ = some (.slice A5_4 q4.length c5_4) ∧ w'.cell? ⟨w5.heap.size, 5, none⟩ = some (.slice A5_5 q5.length c5_5)) (ds := []) (bA 5 0) (by kernel_rfl) rfl rfl (by rw [hw9]; exact ⟨hx0, hx1, hx2, hx3, hx4, hx5, hgx0, hgx1, hgx2, hgx3, hgx4, hgx5⟩) (fun hHeld => ?_)
 refine with_tabW lawC_tab lawC_bits (fun HT_ HW_ => ?_)
 rw [hw9] at hHeld ⊢
 clear hw9
 refine take_ (i := 0) (N := some 80) (bA 5 1) rfl rfl (take_ofW HT_.out HW_.out (by kernel_rfl)) (fun _ _ _ h => h) (.inl ⟨by rfl, by rintro w' ⟨s0, s1, s2, s3, s4, s5, s6, s7, s8, s9, s10, s11⟩; go_simp; with_reducible rfl⟩) hHeld (by simp only [Act.put, sb0, sb1, sb2, i64_w, i32_w]; rfl) ?_
 refine take_ (i := 1) (N := some 81) (bA 5 3) rfl rfl (take_ofW HT_.out HW_.out (by kernel_rfl)) (fun _ _ _ h => h) (.inl ⟨by rfl, by rintro w' ⟨s0, s1, s2, s3, s4, s5, s6, s7, s8, s9, s10, s11⟩; go_simp; with_reducible rfl⟩) hHeld (by simp only [Act.put, sb0, sb1, sb2, i64_w, i32_w]; rfl) ?_
 refine one_ (i := 2) (N := some 82) (bA 5 7) rfl rfl (one_of HT_.out (by kernel_rfl)) (by decide) (fun K hK => ?_)
 refine call_ 10 #[.agg #[.slice A0_0 l0_0.length c0_0, .slice A0_1 l0_1.length c0_1, .slice A0_2 l0_2.length c0_2, .slice A0_3 l0_3.length c0_3, .slice A0_4 l0_4.length c0_4, .slice A0_5 l0_5.length c0_5]] (by rfl) rfl ?hrun2 ?h2
 case hrun2 =>
  have he := enters_of Try.func10 (by kernel_rfl) rfl
  unfold execOp
  simp [resolve, Deferred.ofValue, invoke, Act.eval, he]
 refine (toNet_any (kf := kf) w.heap.size HB.out.size A0_0 c0_0 l0_0 A0_1 c0_1 l0_1 A0_2 c0_2 l0_2 A0_3 c0_3 l0_3 A0_4 c0_4 l0_4 A0_5 c0_5 l0_5 q0 q1 q2 q3 q4 q5 FA.out.now.2.1 hc0_0 FA.out.now.2.2.1 hc0_1 FA.out.now.2.2.2.1 hc0_2 FA.out.now.2.2.2.2.1 hc0_3 FA.out.now.2.2.2.2.2.1 hc0_4 FA.out.now.2.2.2.2.2.2.1 hc0_5 hto).mono ?_
 rintro e w11 ⟨A10_0, c10_0, A10_1, c10_1, A10_2, c10_2, A10_3, c10_3, A10_4, c10_4, A10_5, c10_5, rfl, hN_, -, hb⟩
 refine ⟨_, rfl, ?_⟩
 clear hx0 hx1 hx2 hx3 hx4 hx5 hgx0 hgx1 hgx2 hgx3 hgx4 hgx5
 have mFA_ := aM (foot_below FA.out hb)
 have mFW_ := aM (foot_below FW.out hb)
 have mHS5_ := aM (foot_below HS5.out hb)
 have mHG6_ := aM (foot_below HG6.out hb)
 have mHX2_ := aM (foot_below HX2.out hb)
 have mHX3_ := aM (foot_below HX3.out hb)
 have mHX4_ := aM (foot_below HX4.out hb)
 have mHR7_ := aM (foot_below HR7.out hb)
 have mB_ := aB HB hb
 have mQ_ := aM (Nat.le_trans HQ.out hb.size)
 clear FA FW HS5 HG6 HX2 HX3 HX4 HR7 HB HQ
 have FA := mFA_
 have FW := mFW_
 have HS5 := mHS5_
 have HG6 := mHG6_
 have HX2 := mHX2_
 have HX3 := mHX3_
 have HX4 := mHX4_
 have HR7 := mHR7_
 have HB := mB_
 have HQ := mQ_
 clear mFA_ mFW_ mHS5_ mHG6_ mHX2_ mHX3_ mHX4_ mHR7_ mB_ mQ_
 obtain ⟨hx0, hx1, hx2, hx3, hx4, hx5⟩ := box6 FA.out.now.1
 obtain ⟨hgx0, hgx1, hgx2, hgx3, hgx4, hgx5⟩ := box6 HG6.out.now
 clear hb
 have HN10 := aM hN_
 clear hN_
 refine hK.out _ _ ⟨hx0, hx1, hx2, hx3, hx4, hx5, hgx0, hgx1, hgx2, hgx3, hgx4, hgx5⟩ (fun hHeld => ?_)
 clear hK K
 refine norm_ (a' := ?_) ?_ ?_
 rotate_left
 ·show Act.put _ (some 82) _ = _
  simp only [Act.put, sb0, sb1, sb2, i64_w, i32_w]
  rfl
 refine one_ (i := 3) (N := some 83) (bA 5 15) rfl rfl (one_of HT_.out (by kernel_rfl)) (by decide) (fun K hK => ?_)
 refine call_ 15 #[.agg #[.slice A5_0 q0.length c5_0, .slice A5_1 q1.length c5_1, .slice A5_2 q2.length c5_2, .slice A5_3 q3.length c5_3, .slice A5_4 q4.length c5_4, .slice A5_5 q5.length c5_5], .agg #[.slice A10_0 q0.length c10_0, .slice A10_1 q1.length c10_1, .slice A10_2 q2.length c10_2, .slice A10_3 q3.length c10_3, .slice A10_4 q4.length c10_4, .slice A10_5 q5.length c10_5]] (by rfl) rfl ?hrun3 ?h3
 case hrun3 =>
  have he := enters_of Try.func15 (by kernel_rfl) rfl
  unfold execOp
  simp [resolve, Deferred.ofValue, invoke, Act.eval, he]
 refine (eqNet_any (kf := kf) HS5.out.now HN10.out hen).mono ?_
 rintro e w12 ⟨rfl, hb⟩
 refine ⟨_, rfl, ?_⟩
 clear HN10 hx0 hx1 hx2 hx3 hx4 hx5 hgx0 hgx1 hgx2 hgx3 hgx4 hgx5
 have mFA_ := aM (foot_below FA.out hb)
 have mFW_ := aM (foot_below FW.out hb)
 have mHS5_ := aM (foot_below HS5.out hb)
 have mHG6_ := aM (foot_below HG6.out hb)
 have mHX2_ := aM (foot_below HX2.out hb)
 have mHX3_ := aM (foot_below HX3.out hb)
 have mHX4_ := aM (foot_below HX4.out hb)
 have mHR7_ := aM (foot_below HR7.out hb)
 have mB_ := aB HB hb
 have mQ_ := aM (Nat.le_trans HQ.out hb.size)
 clear FA FW HS5 HG6 HX2 HX3 HX4 HR7 HB HQ
 have FA := mFA_
 have FW := mFW_
 have HS5 := mHS5_
 have HG6 := mHG6_
 have HX2 := mHX2_
 have HX3 := mHX3_
 have HX4 := mHX4_
 have HR7 := mHR7_
 have HB := mB_
 have HQ := mQ_
 clear mFA_ mFW_ mHS5_ mHG6_ mHX2_ mHX3_ mHX4_ mHR7_ mB_ mQ_
 obtain ⟨hx0, hx1, hx2, hx3, hx4, hx5⟩ := box6 FA.out.now.1
 obtain ⟨hgx0, hgx1, hgx2, hgx3, hgx4, hgx5⟩ := box6 HG6.out.now
 clear hb
 refine hK.out _ _ ⟨hx0, hx1, hx2, hx3, hx4, hx5, hgx0, hgx1, hgx2, hgx3, hgx4, hgx5⟩ (fun hHeld => ?_)
 clear hK K
 refine norm_ (a' := ?_) ?_ ?_
 rotate_left
 ·show Act.put _ (some 83) _ = _
  simp only [Act.put, sb0, sb1, sb2, i64_w, i32_w]
  rfl
 refine pure_ (i := 4) (N := some 84) (bA 5 31) rfl rfl (any_of HT_.out (by kernel_rfl)) (fun _ _ _ h => h) (.inl ⟨by rfl, by intro w'; go_simp; with_reducible rfl⟩) (by simp only [Act.put, sb0, sb1, sb2, i64_w, i32_w]; rfl) ?_
 refine done_ (done_of HT_.out (by kernel_rfl)) ?_
 clear hHeld HT_ HW_
 go_upto_region 24 with (first | (go_at_call 11; (with_reducible refine (laws_toIntS.calls kf A2 c2 l2 t2 _ FA.out.now.2.2.2.2.2.2.2.1 hc2 ht2).mono ?_); rintro e wy2 ⟨v13, rfl, hR13, hb⟩; clear hx0 hx1 hx2 hx3 hx4 hx5; clear hgx0 hgx1 hgx2 hgx3 hgx4 hgx5; have mFA_ := aM (foot_below FA.out hb); have mFW_ := aM (foot_below FW.out hb); have mHS5_ := aM (foot_below HS5.out hb); have mHG6_ := aM (foot_below HG6.out hb); have mHX2_ := aM (foot_below HX2.out hb); have mHX3_ := aM (foot_below HX3.out hb); have mHX4_ := aM (foot_below HX4.out hb); have mHR7_ := aM (foot_below HR7.out hb); have mB_ := aB HB hb; have mQ_ := aM (Nat.le_trans HQ.out hb.size); clear FA FW HS5 HG6 HX2 HX3 HX4 HR7 HB HQ; have FA := mFA_; have FW := mFW_; have HS5 := mHS5_; have HG6 := mHG6_; have HX2 := mHX2_; have HX3 := mHX3_; have HX4 := mHX4_; have HR7 := mHR7_; have HB := mB_; have HQ := mQ_; clear mFA_ mFW_ mHS5_ mHG6_ mHX2_ mHX3_ mHX4_ mHR7_ mB_ mQ_; obtain ⟨hx0, hx1, hx2, hx3, hx4, hx5⟩ := box6 FA.out.now.1; obtain ⟨hgx0, hgx1, hgx2, hgx3, hgx4, hgx5⟩ := box6 HG6.out.now; clear hb; obtain ⟨A13, c13, ev_, hl13, hC13⟩ := Kd.R_reads hR13; clear hR13; subst ev_) | (go_at_call 16; (with_reducible refine (laws_eqIntS.calls kf A6_2 c6_2 t2 A13 c13 t2 true _ (Kd.R_reads' HX2.out.now).2.2 (Kd.R_reads' HX2.out.now).2.1 hC13 hl13 he2).mono ?_); rintro e wz2 ⟨rfl, hd⟩; clear hC13 hl13; have hb := drawn_below hd; clear hd; clear hx0 hx1 hx2 hx3 hx4 hx5; clear hgx0 hgx1 hgx2 hgx3 hgx4 hgx5; have mFA_ := aM (foot_below FA.out hb); have mFW_ := aM (foot_below FW.out hb); have mHS5_ := aM (foot_below HS5.out hb); have mHG6_ := aM (foot_below HG6.out hb); have mHX2_ := aM (foot_below HX2.out hb); have mHX3_ := aM (foot_below HX3.out hb); have mHX4_ := aM (foot_below HX4.out hb); have mHR7_ := aM (foot_below HR7.out hb); have mB_ := aB HB hb; have mQ_ := aM (Nat.le_trans HQ.out hb.size); clear FA FW HS5 HG6 HX2 HX3 HX4 HR7 HB HQ; have FA := mFA_; have FW := mFW_; have HS5 := mHS5_; have HG6 := mHG6_; have HX2 := mHX2_; have HX3 := mHX3_; have HX4 := mHX4_; have HR7 := mHR7_; have HB := mB_; have HQ := mQ_; clear mFA_ mFW_ mHS5_ mHG6_ mHX2_ mHX3_ mHX4_ mHR7_ mB_ mQ_; obtain ⟨hx0, hx1, hx2, hx3, hx4, hx5⟩ := box6 FA.out.now.1; obtain ⟨hgx0, hgx1, hgx2, hgx3, hgx4, hgx5⟩ := box6 HG6.out.now; clear hb))
 go_upto_region 26 with (first | (go_at_call 12; (with_reducible refine (laws_toBoolS.calls kf A3 c3 l3 t3 _ FA.out.now.2.2.2.2.2.2.2.2.1 hc3 ht3).mono ?_); rintro e wy3 ⟨v13, rfl, hR13, hb⟩; clear hx0 hx1 hx2 hx3 hx4 hx5; clear hgx0 hgx1 hgx2 hgx3 hgx4 hgx5; have mFA_ := aM (foot_below FA.out hb); have mFW_ := aM (foot_below FW.out hb); have mHS5_ := aM (foot_below HS5.out hb); have mHG6_ := aM (foot_below HG6.out hb); have mHX2_ := aM (foot_below HX2.out hb); have mHX3_ := aM (foot_below HX3.out hb); have mHX4_ := aM (foot_below HX4.out hb); have mHR7_ := aM (foot_below HR7.out hb); have mB_ := aB HB hb; have mQ_ := aM (Nat.le_trans HQ.out hb.size); clear FA FW HS5 HG6 HX2 HX3 HX4 HR7 HB HQ; have FA := mFA_; have FW := mFW_; have HS5 := mHS5_; have HG6 := mHG6_; have HX2 := mHX2_; have HX3 := mHX3_; have HX4 := mHX4_; have HR7 := mHR7_; have HB := mB_; have HQ := mQ_; clear mFA_ mFW_ mHS5_ mHG6_ mHX2_ mHX3_ mHX4_ mHR7_ mB_ mQ_; obtain ⟨hx0, hx1, hx2, hx3, hx4, hx5⟩ := box6 FA.out.now.1; obtain ⟨hgx0, hgx1, hgx2, hgx3, hgx4, hgx5⟩ := box6 HG6.out.now; clear hb; obtain ⟨A13, c13, ev_, hl13, hC13⟩ := Kd.R_reads hR13; clear hR13; subst ev_) | (go_at_call 17; (with_reducible refine (laws_eqBoolS.calls kf A6_3 c6_3 t3 A13 c13 t3 true _ (Kd.R_reads' HX3.out.now).2.2 (Kd.R_reads' HX3.out.now).2.1 hC13 hl13 he3).mono ?_); rintro e wz3 ⟨rfl, hd⟩; clear hC13 hl13; have hb := drawn_below hd; clear hd; clear hx0 hx1 hx2 hx3 hx4 hx5; clear hgx0 hgx1 hgx2 hgx3 hgx4 hgx5; have mFA_ := aM (foot_below FA.out hb); have mFW_ := aM (foot_below FW.out hb); have mHS5_ := aM (foot_below HS5.out hb); have mHG6_ := aM (foot_below HG6.out hb); have mHX2_ := aM (foot_below HX2.out hb); have mHX3_ := aM (foot_below HX3.out hb); have mHX4_ := aM (foot_below HX4.out hb); have mHR7_ := aM (foot_below HR7.out hb); have mB_ := aB HB hb; have mQ_ := aM (Nat.le_trans HQ.out hb.size); clear FA FW HS5 HG6 HX2 HX3 HX4 HR7 HB HQ; have FA := mFA_; have FW := mFW_; have HS5 := mHS5_; have HG6 := mHG6_; have HX2 := mHX2_; have HX3 := mHX3_; have HX4 := mHX4_; have HR7 := mHR7_; have HB := mB_; have HQ := mQ_; clear mFA_ mFW_ mHS5_ mHG6_ mHX2_ mHX3_ mHX4_ mHR7_ mB_ mQ_; obtain ⟨hx0, hx1, hx2, hx3, hx4, hx5⟩ := box6 FA.out.now.1; obtain ⟨hgx0, hgx1, hgx2, hgx3, hgx4, hgx5⟩ := box6 HG6.out.now; clear hb))
 go_upto_region 29 with (first | (go_at_call 30; (with_reducible refine (laws_toRouteS.calls kf A4 c4 l4 t4 _ FA.out.now.2.2.2.2.2.2.2.2.2 hc4 ht4).mono ?_); rintro e wy4 ⟨v13, rfl, hR13, hb⟩; clear hx0 hx1 hx2 hx3 hx4 hx5; clear hgx0 hgx1 hgx2 hgx3 hgx4 hgx5; have mFA_ := aM (foot_below FA.out hb); have mFW_ := aM (foot_below FW.out hb); have mHS5_ := aM (foot_below HS5.out hb); have mHG6_ := aM (foot_below HG6.out hb); have mHX2_ := aM (foot_below HX2.out hb); have mHX3_ := aM (foot_below HX3.out hb); have mHX4_ := aM (foot_below HX4.out hb); have mHR7_ := aM (foot_below HR7.out hb); have mB_ := aB HB hb; have mQ_ := aM (Nat.le_trans HQ.out hb.size); clear FA FW HS5 HG6 HX2 HX3 HX4 HR7 HB HQ; have FA := mFA_; have FW := mFW_; have HS5 := mHS5_; have HG6 := mHG6_; have HX2 := mHX2_; have HX3 := mHX3_; have HX4 := mHX4_; have HR7 := mHR7_; have HB := mB_; have HQ := mQ_; clear mFA_ mFW_ mHS5_ mHG6_ mHX2_ mHX3_ mHX4_ mHR7_ mB_ mQ_; obtain ⟨hx0, hx1, hx2, hx3, hx4, hx5⟩ := box6 FA.out.now.1; obtain ⟨hgx0, hgx1, hgx2, hgx3, hgx4, hgx5⟩ := box6 HG6.out.now; clear hb; obtain ⟨A13, c13, ev_, hl13, hC13⟩ := Kd.R_reads hR13; clear hR13; subst ev_) | (go_at_call 14; (with_reducible refine (laws_eqRouteS.calls kf A6_4 c6_4 t4 A13 c13 t4 true _ (Kd.R_reads' HX4.out.now).2.2 (Kd.R_reads' HX4.out.now).2.1 hC13 hl13 he4).mono ?_); rintro e wz4 ⟨rfl, hb⟩; clear hC13 hl13; clear hx0 hx1 hx2 hx3 hx4 hx5; clear hgx0 hgx1 hgx2 hgx3 hgx4 hgx5; have mFA_ := aM (foot_below FA.out hb); have mFW_ := aM (foot_below FW.out hb); have mHS5_ := aM (foot_below HS5.out hb); have mHG6_ := aM (foot_below HG6.out hb); have mHX2_ := aM (foot_below HX2.out hb); have mHX3_ := aM (foot_below HX3.out hb); have mHX4_ := aM (foot_below HX4.out hb); have mHR7_ := aM (foot_below HR7.out hb); have mB_ := aB HB hb; have mQ_ := aM (Nat.le_trans HQ.out hb.size); clear FA FW HS5 HG6 HX2 HX3 HX4 HR7 HB HQ; have FA := mFA_; have FW := mFW_; have HS5 := mHS5_; have HG6 := mHG6_; have HX2 := mHX2_; have HX3 := mHX3_; have HX4 := mHX4_; have HR7 := mHR7_; have HB := mB_; have HQ := mQ_; clear mFA_ mFW_ mHS5_ mHG6_ mHX2_ mHX3_ mHX4_ mHR7_ mB_ mQ_; obtain ⟨hx0, hx1, hx2, hx3, hx4, hx5⟩ := box6 FA.out.now.1; obtain ⟨hgx0, hgx1, hgx2, hgx3, hgx4, hgx5⟩ := box6 HG6.out.now; clear hb))
 go_upto_region 30 with (go_at_call 18; (with_reducible refine (markNet_any (kf := kf) HB.out HS5.out.now HAP.out hmn).mono ?_); rintro e w15 ⟨rfl, hbB, hbK⟩; clear hx0 hx1 hx2 hx3 hx4 hx5; clear hgx0 hgx1 hgx2 hgx3 hgx4 hgx5; clear HG6 HS5; have mFA_ := aM (foot_kept FA.out hbK (fun k_ hk_ hs_ => by have g1_ : k_ < W1.heap.size := hk_; have g2_ : w4.heap.size ≤ k_ ∧ k_ < w5.heap.size := hs_; have := HLE.out; have := HL5.out; have := H6.out; have := HZ2.out; have := HZ3.out; have := HZ4.out; omega)); have mFW_ := aM (foot_kept FW.out hbK (fun k_ hk_ hs_ => by have g1_ : k_ < w4.heap.size := hk_; have g2_ : w4.heap.size ≤ k_ ∧ k_ < w5.heap.size := hs_; have := HLE.out; have := HL5.out; have := H6.out; have := HZ2.out; have := HZ3.out; have := HZ4.out; omega)); have mHX2_ := aM (foot_kept HX2.out hbK (fun k_ hk_ hs_ => by have g1_ : w6.heap.size ≤ k_ ∧ k_ < wx2.heap.size := hk_; have g2_ : w4.heap.size ≤ k_ ∧ k_ < w5.heap.size := hs_; have := HLE.out; have := HL5.out; have := H6.out; have := HZ2.out; have := HZ3.out; have := HZ4.out; omega)); have mHX3_ := aM (foot_kept HX3.out hbK (fun k_ hk_ hs_ => by have g1_ : wx2.heap.size ≤ k_ ∧ k_ < wx3.heap.size := hk_; have g2_ : w4.heap.size ≤ k_ ∧ k_ < w5.heap.size := hs_; have := HLE.out; have := HL5.out; have := H6.out; have := HZ2.out; have := HZ3.out; have := HZ4.out; omega)); have mHX4_ := aM (foot_kept HX4.out hbK (fun k_ hk_ hs_ => by have g1_ : wx3.heap.size ≤ k_ ∧ k_ < wx4.heap.size := hk_; have g2_ : w4.heap.size ≤ k_ ∧ k_ < w5.heap.size := hs_; have := HLE.out; have := HL5.out; have := H6.out; have := HZ2.out; have := HZ3.out; have := HZ4.out; omega)); have mHR7_ := aM (foot_kept HR7.out hbK (fun k_ hk_ hs_ => by have g1_ : wx4.heap.size ≤ k_ := hk_; have g2_ : w4.heap.size ≤ k_ ∧ k_ < w5.heap.size := hs_; have := HLE.out; have := HL5.out; have := H6.out; have := HZ2.out; have := HZ3.out; have := HZ4.out; omega)); have mB_ := aM hbB; have mQ_ := aM (Nat.le_trans HQ.out hbK.1); clear FA FW HX2 HX3 HX4 HR7 HB HQ; have FA := mFA_; have FW := mFW_; have HX2 := mHX2_; have HX3 := mHX3_; have HX4 := mHX4_; have HR7 := mHR7_; have HB := mB_; have HQ := mQ_; clear mFA_ mFW_ mHX2_ mHX3_ mHX4_ mHR7_ mB_ mQ_; obtain ⟨hx0, hx1, hx2, hx3, hx4, hx5⟩ := box6 FA.out.now.1; clear hbK hbB)
 go_upto_region 31 with (go_at_call 19; (with_reducible refine (laws_markIntS.calls kf (fun k_ => w6.heap.size ≤ k_ ∧ k_ < wx2.heap.size) (.slice A6_2 t2.length c6_2) t2 m0 m1 tm2 w _ HB.out HX2.out.now hm2).mono ?_); rintro e wm2 ⟨rfl, hR16, hbB, hbK⟩; clear hx0 hx1 hx2 hx3 hx4 hx5; clear HX2 hR16; have mFA_ := aM (foot_kept FA.out hbK (fun k_ hk_ hs_ => by have g1_ : k_ < W1.heap.size := hk_; have g2_ : w6.heap.size ≤ k_ ∧ k_ < wx2.heap.size := hs_; have := HLE.out; have := HL5.out; have := H6.out; have := HZ2.out; have := HZ3.out; have := HZ4.out; omega)); have mFW_ := aM (foot_kept FW.out hbK (fun k_ hk_ hs_ => by have g1_ : k_ < w4.heap.size := hk_; have g2_ : w6.heap.size ≤ k_ ∧ k_ < wx2.heap.size := hs_; have := HLE.out; have := HL5.out; have := H6.out; have := HZ2.out; have := HZ3.out; have := HZ4.out; omega)); have mHX3_ := aM (foot_kept HX3.out hbK (fun k_ hk_ hs_ => by have g1_ : wx2.heap.size ≤ k_ ∧ k_ < wx3.heap.size := hk_; have g2_ : w6.heap.size ≤ k_ ∧ k_ < wx2.heap.size := hs_; have := HLE.out; have := HL5.out; have := H6.out; have := HZ2.out; have := HZ3.out; have := HZ4.out; omega)); have mHX4_ := aM (foot_kept HX4.out hbK (fun k_ hk_ hs_ => by have g1_ : wx3.heap.size ≤ k_ ∧ k_ < wx4.heap.size := hk_; have g2_ : w6.heap.size ≤ k_ ∧ k_ < wx2.heap.size := hs_; have := HLE.out; have := HL5.out; have := H6.out; have := HZ2.out; have := HZ3.out; have := HZ4.out; omega)); have mHR7_ := aM (foot_kept HR7.out hbK (fun k_ hk_ hs_ => by have g1_ : wx4.heap.size ≤ k_ := hk_; have g2_ : w6.heap.size ≤ k_ ∧ k_ < wx2.heap.size := hs_; have := HLE.out; have := HL5.out; have := H6.out; have := HZ2.out; have := HZ3.out; have := HZ4.out; omega)); have mB_ := aM hbB; have mQ_ := aM (Nat.le_trans HQ.out hbK.1); clear FA FW HX3 HX4 HR7 HB HQ; have FA := mFA_; have FW := mFW_; have HX3 := mHX3_; have HX4 := mHX4_; have HR7 := mHR7_; have HB := mB_; have HQ := mQ_; clear mFA_ mFW_ mHX3_ mHX4_ mHR7_ mB_ mQ_; obtain ⟨hx0, hx1, hx2, hx3, hx4, hx5⟩ := box6 FA.out.now.1; clear hbK hbB)
 go_upto_region 32 with (go_at_call 20; (with_reducible refine (laws_markBoolS.calls kf (fun k_ => wx2.heap.size ≤ k_ ∧ k_ < wx3.heap.size) (.slice A6_3 t3.length c6_3) t3 m1 m2 tm3 w _ HB.out HX3.out.now hm3).mono ?_); rintro e wm3 ⟨rfl, hR16, hbB, hbK⟩; clear hx0 hx1 hx2 hx3 hx4 hx5; clear HX3 hR16; have mFA_ := aM (foot_kept FA.out hbK (fun k_ hk_ hs_ => by have g1_ : k_ < W1.heap.size := hk_; have g2_ : wx2.heap.size ≤ k_ ∧ k_ < wx3.heap.size := hs_; have := HLE.out; have := HL5.out; have := H6.out; have := HZ2.out; have := HZ3.out; have := HZ4.out; omega)); have mFW_ := aM (foot_kept FW.out hbK (fun k_ hk_ hs_ => by have g1_ : k_ < w4.heap.size := hk_; have g2_ : wx2.heap.size ≤ k_ ∧ k_ < wx3.heap.size := hs_; have := HLE.out; have := HL5.out; have := H6.out; have := HZ2.out; have := HZ3.out; have := HZ4.out; omega)); have mHX4_ := aM (foot_kept HX4.out hbK (fun k_ hk_ hs_ => by have g1_ : wx3.heap.size ≤ k_ ∧ k_ < wx4.heap.size := hk_; have g2_ : wx2.heap.size ≤ k_ ∧ k_ < wx3.heap.size := hs_; have := HLE.out; have := HL5.out; have := H6.out; have := HZ2.out; have := HZ3.out; have := HZ4.out; omega)); have mHR7_ := aM (foot_kept HR7.out hbK (fun k_ hk_ hs_ => by have g1_ : wx4.heap.size ≤ k_ := hk_; have g2_ : wx2.heap.size ≤ k_ ∧ k_ < wx3.heap.size := hs_; have := HLE.out; have := HL5.out; have := H6.out; have := HZ2.out; have := HZ3.out; have := HZ4.out; omega)); have mB_ := aM hbB; have mQ_ := aM (Nat.le_trans HQ.out hbK.1); clear FA FW HX4 HR7 HB HQ; have FA := mFA_; have FW := mFW_; have HX4 := mHX4_; have HR7 := mHR7_; have HB := mB_; have HQ := mQ_; clear mFA_ mFW_ mHX4_ mHR7_ mB_ mQ_; obtain ⟨hx0, hx1, hx2, hx3, hx4, hx5⟩ := box6 FA.out.now.1; clear hbK hbB)
 go_upto_region 33 with (go_at_call 21; (with_reducible refine (laws_markRouteS.calls kf (fun k_ => wx3.heap.size ≤ k_ ∧ k_ < wx4.heap.size) (.slice A6_4 t4.length c6_4) t4 m2 m3 tm4 w _ HB.out HX4.out.now hm4).mono ?_); rintro e wm4 ⟨rfl, hR16, hbB, hbK⟩; clear hx0 hx1 hx2 hx3 hx4 hx5; clear HX4 hR16; have mFA_ := aM (foot_kept FA.out hbK (fun k_ hk_ hs_ => by have g1_ : k_ < W1.heap.size := hk_; have g2_ : wx3.heap.size ≤ k_ ∧ k_ < wx4.heap.size := hs_; have := HLE.out; have := HL5.out; have := H6.out; have := HZ2.out; have := HZ3.out; have := HZ4.out; omega)); have mFW_ := aM (foot_kept FW.out hbK (fun k_ hk_ hs_ => by have g1_ : k_ < w4.heap.size := hk_; have g2_ : wx3.heap.size ≤ k_ ∧ k_ < wx4.heap.size := hs_; have := HLE.out; have := HL5.out; have := H6.out; have := HZ2.out; have := HZ3.out; have := HZ4.out; omega)); have mHR7_ := aM (foot_kept HR7.out hbK (fun k_ hk_ hs_ => by have g1_ : wx4.heap.size ≤ k_ := hk_; have g2_ : wx3.heap.size ≤ k_ ∧ k_ < wx4.heap.size := hs_; have := HLE.out; have := HL5.out; have := H6.out; have := HZ2.out; have := HZ3.out; have := HZ4.out; omega)); have mB_ := aM hbB; have mQ_ := aM (Nat.le_trans HQ.out hbK.1); clear FA FW HR7 HB HQ; have FA := mFA_; have FW := mFW_; have HR7 := mHR7_; have HB := mB_; have HQ := mQ_; clear mFA_ mFW_ mHR7_ mB_ mQ_; obtain ⟨hx0, hx1, hx2, hx3, hx4, hx5⟩ := box6 FA.out.now.1; clear hbK hbB)
 go_upto_region 36 with (go_at_call 14; (with_reducible refine (laws_eqRouteS.calls kf A7 c7 s1 A9 c9 s1 true _ (Kd.R_reads' HR7.out.now).2.2 (Kd.R_reads' HR7.out.now).2.1 (Kd.R_reads' FW.out.now).2.2 (Kd.R_reads' FW.out.now).2.1 heb).mono ?_); rintro e w17 ⟨rfl, hb⟩; clear hx0 hx1 hx2 hx3 hx4 hx5; have mFA_ := aM (foot_below FA.out hb); have mFW_ := aM (foot_below FW.out hb); have mHR7_ := aM (foot_below HR7.out hb); have mB_ := aB HB hb; have mQ_ := aM (Nat.le_trans HQ.out hb.size); clear FA FW HR7 HB HQ; have FA := mFA_; have FW := mFW_; have HR7 := mHR7_; have HB := mB_; have HQ := mQ_; clear mFA_ mFW_ mHR7_ mB_ mQ_; obtain ⟨hx0, hx1, hx2, hx3, hx4, hx5⟩ := box6 FA.out.now.1; clear hb)
 go_upto_region 38 with (go_at_call 21; (with_reducible refine (laws_markRouteS.calls kf (fun k_ => wx4.heap.size ≤ k_) (.slice A7 s1.length c7) s1 1 hh G w _ HB.out HR7.out.now hmg).mono ?_); rintro e w18 ⟨rfl, hR18, hbB, hbK⟩; clear hx0 hx1 hx2 hx3 hx4 hx5; clear HR7; have mFA_ := aM (foot_kept FA.out hbK (fun k_ hk_ hs_ => by have g1_ : k_ < W1.heap.size := hk_; have g2_ : wx4.heap.size ≤ k_ := hs_; have := HLE.out; have := HL5.out; have := H6.out; have := HZ2.out; have := HZ3.out; have := HZ4.out; omega)); have mFW_ := aM (foot_kept FW.out hbK (fun k_ hk_ hs_ => by have g1_ : k_ < w4.heap.size := hk_; have g2_ : wx4.heap.size ≤ k_ := hs_; have := HLE.out; have := HL5.out; have := H6.out; have := HZ2.out; have := HZ3.out; have := HZ4.out; omega)); have mB_ := aM hbB; have mQ_ := aM (Nat.le_trans HQ.out hbK.1); clear FA FW HB HQ; have FA := mFA_; have FW := mFW_; have HB := mB_; have HQ := mQ_; clear mFA_ mFW_ mB_ mQ_; obtain ⟨hx0, hx1, hx2, hx3, hx4, hx5⟩ := box6 FA.out.now.1; have HR14 := aM (foot_R (Kd.R_mono (ok' := fun _ => True) hR18 (fun _ _ => trivial))); clear hbK hbB hR18)
 go_upto_region 43 with (go_at_call 22; (with_reducible refine (held_at kf A7 c7 G s1.length hGl 1 hh _ (Kd.R_reads' HR14.out.now).2.2 (Kd.R_reads' HR14.out.now).2.1 hhb).mono ?_); rintro e w19 ⟨rfl, hd⟩; have hb := drawn_below hd; clear hd; clear hx0 hx1 hx2 hx3 hx4 hx5; have mFA_ := aM (foot_below FA.out hb); have mFW_ := aM (foot_below FW.out hb); have mHR14_ := aM (foot_below HR14.out hb); have mB_ := aB HB hb; have mQ_ := aM (Nat.le_trans HQ.out hb.size); clear FA FW HR14 HB HQ; have FA := mFA_; have FW := mFW_; have HR14 := mHR14_; have HB := mB_; have HQ := mQ_; clear mFA_ mFW_ mHR14_ mB_ mQ_; obtain ⟨hx0, hx1, hx2, hx3, hx4, hx5⟩ := box6 FA.out.now.1; clear hb)
 go_wp2_with (first | (go_at_call 10; (with_reducible refine (toNet_any (kf := kf) w.heap.size HB.out.size A0_0 c0_0 l0_0 A0_1 c0_1 l0_1 A0_2 c0_2 l0_2 A0_3 c0_3 l0_3 A0_4 c0_4 l0_4 A0_5 c0_5 l0_5 q0 q1 q2 q3 q4 q5 FA.out.now.2.1 hc0_0 FA.out.now.2.2.1 hc0_1 FA.out.now.2.2.2.1 hc0_2 FA.out.now.2.2.2.2.1 hc0_3 FA.out.now.2.2.2.2.2.1 hc0_4 FA.out.now.2.2.2.2.2.2.1 hc0_5 hto).mono ?_); rintro e w21a ⟨A20_0, c20_0, A20_1, c20_1, A20_2, c20_2, A20_3, c20_3, A20_4, c20_4, A20_5, c20_5, rfl, hN_, -, hb⟩; clear hx0 hx1 hx2 hx3 hx4 hx5; have mFA_ := aM (foot_below FA.out hb); have mFW_ := aM (foot_below FW.out hb); have mHR14_ := aM (foot_below HR14.out hb); have mB_ := aB HB hb; have mQ_ := aM (Nat.le_trans HQ.out hb.size); clear FA FW HR14 HB HQ; have FA := mFA_; have FW := mFW_; have HR14 := mHR14_; have HB := mB_; have HQ := mQ_; clear mFA_ mFW_ mHR14_ mB_ mQ_; obtain ⟨hx0, hx1, hx2, hx3, hx4, hx5⟩ := box6 FA.out.now.1; clear hb; have HN20 := aM (NP.foot hN_); clear hN_) | (go_at_call 11; (with_reducible refine (laws_toIntS.calls kf A2 c2 l2 t2 _ FA.out.now.2.2.2.2.2.2.2.1 hc2 ht2).mono ?_); rintro e w21r2 ⟨v3, rfl, hR_, hb⟩; clear hx0 hx1 hx2 hx3 hx4 hx5; have mFA_ := aM (foot_below FA.out hb); have mFW_ := aM (foot_below FW.out hb); have mHR14_ := aM (foot_below HR14.out hb); have mHN20_ := aM (foot_below HN20.out hb); have mB_ := aB HB hb; have mQ_ := aM (Nat.le_trans HQ.out hb.size); clear FA FW HR14 HN20 HB HQ; have FA := mFA_; have FW := mFW_; have HR14 := mHR14_; have HN20 := mHN20_; have HB := mB_; have HQ := mQ_; clear mFA_ mFW_ mHR14_ mHN20_ mB_ mQ_; obtain ⟨hx0, hx1, hx2, hx3, hx4, hx5⟩ := box6 FA.out.now.1; clear hb; obtain ⟨A20_r2, c20_r2, ev_⟩ := Kd.R_slice hR_; subst ev_; have HR20_2 := aM (foot_R hR_); clear hR_) | (go_at_call 12; (with_reducible refine (laws_toBoolS.calls kf A3 c3 l3 t3 _ FA.out.now.2.2.2.2.2.2.2.2.1 hc3 ht3).mono ?_); rintro e w21r3 ⟨v3, rfl, hR_, hb⟩; clear hx0 hx1 hx2 hx3 hx4 hx5; have mFA_ := aM (foot_below FA.out hb); have mFW_ := aM (foot_below FW.out hb); have mHR14_ := aM (foot_below HR14.out hb); have mHN20_ := aM (foot_below HN20.out hb); have mHR20_2_ := aM (foot_below HR20_2.out hb); have mB_ := aB HB hb; have mQ_ := aM (Nat.le_trans HQ.out hb.size); clear FA FW HR14 HN20 HR20_2 HB HQ; have FA := mFA_; have FW := mFW_; have HR14 := mHR14_; have HN20 := mHN20_; have HR20_2 := mHR20_2_; have HB := mB_; have HQ := mQ_; clear mFA_ mFW_ mHR14_ mHN20_ mHR20_2_ mB_ mQ_; obtain ⟨hx0, hx1, hx2, hx3, hx4, hx5⟩ := box6 FA.out.now.1; clear hb; obtain ⟨A20_r3, c20_r3, ev_⟩ := Kd.R_slice hR_; subst ev_; have HR20_3 := aM (foot_R hR_); clear hR_) | (go_at_call 30; (with_reducible refine (laws_toRouteS.calls kf A4 c4 l4 t4 _ FA.out.now.2.2.2.2.2.2.2.2.2 hc4 ht4).mono ?_); rintro e w21r4 ⟨v3, rfl, hR_, hb⟩; clear hx0 hx1 hx2 hx3 hx4 hx5; have mFA_ := aM (foot_below FA.out hb); have mFW_ := aM (foot_below FW.out hb); have mHR14_ := aM (foot_below HR14.out hb); have mHN20_ := aM (foot_below HN20.out hb); have mHR20_2_ := aM (foot_below HR20_2.out hb); have mHR20_3_ := aM (foot_below HR20_3.out hb); have mB_ := aB HB hb; have mQ_ := aM (Nat.le_trans HQ.out hb.size); clear FA FW HR14 HN20 HR20_2 HR20_3 HB HQ; have FA := mFA_; have FW := mFW_; have HR14 := mHR14_; have HN20 := mHN20_; have HR20_2 := mHR20_2_; have HR20_3 := mHR20_3_; have HB := mB_; have HQ := mQ_; clear mFA_ mFW_ mHR14_ mHN20_ mHR20_2_ mHR20_3_ mB_ mQ_; obtain ⟨hx0, hx1, hx2, hx3, hx4, hx5⟩ := box6 FA.out.now.1; clear hb; obtain ⟨A20_r4, c20_r4, ev_⟩ := Kd.R_slice hR_; subst ev_; have HR20_4 := aM (foot_R hR_); clear hR_) | (go_at_call 33; (with_reducible refine (impl_Candidates_any (kf := kf) HN20.out.now (Kd.R_reads' HR20_2.out.now).2.2 (Kd.R_reads' HR20_2.out.now).2.1 (Kd.R_reads' HR20_3.out.now).2.2 (Kd.R_reads' HR20_3.out.now).2.1 (Kd.R_reads' HR20_4.out.now).2.2 (Kd.R_reads' HR20_4.out.now).2.1 him).mono ?_); rintro e w22 ⟨⟨v18, rfl, hR18⟩, hb⟩; have HB3 := HB; clear HN20 HR20_2 HR20_3 HR20_4; clear hx0 hx1 hx2 hx3 hx4 hx5; have mFA_ := aM (foot_below FA.out hb); have mFW_ := aM (foot_below FW.out hb); have mHR14_ := aM (foot_below HR14.out hb); have mB_ := aB HB hb; have mQ_ := aM (Nat.le_trans HQ.out hb.size); clear FA FW HR14 HB HQ; have FA := mFA_; have FW := mFW_; have HR14 := mHR14_; have HB := mB_; have HQ := mQ_; clear mFA_ mFW_ mHR14_ mB_ mQ_; obtain ⟨hx0, hx1, hx2, hx3, hx4, hx5⟩ := box6 FA.out.now.1; clear hb; obtain ⟨A18, c18, ev_, hl18, hC18⟩ := Kd.R_reads hR18; clear hR18; subst ev_) | (go_at_call 14; (with_reducible refine (laws_eqRouteS.calls kf A18 c18 s1 A9 c9 s1 true _ hC18 hl18 (Kd.R_reads' FW.out.now).2.2 (Kd.R_reads' FW.out.now).2.1 heb).mono ?_); rintro e w23 ⟨rfl, hb⟩; clear hC18 hl18; clear hx0 hx1 hx2 hx3 hx4 hx5; have mFA_ := aM (foot_below FA.out hb); have mFW_ := aM (foot_below FW.out hb); have mHR14_ := aM (foot_below HR14.out hb); have mB_ := aB HB hb; have mQ_ := aM (Nat.le_trans HQ.out hb.size); clear FA FW HR14 HB HQ; have FA := mFA_; have FW := mFW_; have HR14 := mHR14_; have HB := mB_; have HQ := mQ_; clear mFA_ mFW_ mHR14_ mB_ mQ_; obtain ⟨hx0, hx1, hx2, hx3, hx4, hx5⟩ := box6 FA.out.now.1; clear hb) | (go_at_call 22; (with_reducible refine (held_at kf A7 c7 G s1.length hGl 1 hh _ (Kd.R_reads' HR14.out.now).2.2 (Kd.R_reads' HR14.out.now).2.1 hhb).mono ?_); rintro e w24 ⟨rfl, hd⟩; have hb := drawn_below hd; clear hd; clear hx0 hx1 hx2 hx3 hx4 hx5; have mFA_ := aM (foot_below FA.out hb); have mFW_ := aM (foot_below FW.out hb); have mHR14_ := aM (foot_below HR14.out hb); have mB_ := aB HB hb; have mQ_ := aM (Nat.le_trans HQ.out hb.size); clear FA FW HR14 HB HQ; have FA := mFA_; have FW := mFW_; have HR14 := mHR14_; have HB := mB_; have HQ := mQ_; clear mFA_ mFW_ mHR14_ mB_ mQ_; obtain ⟨hx0, hx1, hx2, hx3, hx4, hx5⟩ := box6 FA.out.now.1; clear hb))
 go_ret
 exact ⟨rfl, HB.out⟩
end Go.Proofs.Ytgibacfgjmdjdaa.PFnExactIsStable
end
section
set_option linter.unusedVariables false
set_option linter.unusedSimpArgs false
namespace Go.Proofs.Ytgibacfgjmdjdaa.Reads
open Go.RowKit Go.ChangeShapes Go.WideShapes Go.Deep Go.Proofs.YtgibacfgjmdjdaaW.PrintWords
def ReadsN (P : Program) (n : Nat) (t : TypeId) {α : Type} (d : Kd α) (wf : α → Prop) : Prop :=
 ∀ (H : Type) (enc : TypeId × Value → H) (w : World) (base : Nat) (spare : Nat → Bool) (held : Bool) (cs : List Value) (x : DataW H × List MemPlace),
  DataW.trod enc P w base spare held n t cs = some x → (x.1.weights P t).all (· ≤ reachBytes) = true → ∃ a : α, d.K w a cs ∧ wf a
def Reads (P : Program) (t : TypeId) {α : Type} (d : Kd α) (wf : α → Prop) : Prop := ∀ n, ReadsN P n t d wf
theorem wf_i64 {z : Int} (h : (Lit.int .i64 z).wf = true) : -9223372036854775808 ≤ z ∧ z ≤ 9223372036854775807 := by
 simp only [Lit.wf, Bool.and_eq_true, decide_eq_true_eq] at h
 exact h
def WFI (z : Int) : Prop := -9223372036854775808 ≤ z ∧ z ≤ 9223372036854775807
def WFS (s : ByteArray) : Prop := s.size ≤ 140737488351232
def WFL {α : Type} (b : Nat) (wf : α → Prop) (l : List α) : Prop := l.length * b ≤ 140737488351232 ∧ ∀ x ∈ l, wf x
theorem int {P : Program} {n : Nat} {t : TypeId} (ht : P.underlying t = some (.int .i64)) : ReadsN P n t (Kd.int .i64) WFI := by
 intro H enc w base spare held cs x h _
 obtain ⟨z, rfl, rfl, hw⟩ := DataW.trod_int ht h
 exact ⟨z, rfl, wf_i64 hw⟩
theorem bool {P : Program} {n : Nat} {t : TypeId} (ht : P.underlying t = some .bool) : ReadsN P n t Kd.bool (fun _ => True) := by
 intro H enc w base spare held cs x h _
 obtain ⟨z, rfl, rfl⟩ := DataW.trod_bool ht h
 exact ⟨z, rfl, trivial⟩
theorem string {P : Program} {n : Nat} {t : TypeId} (ht : P.underlying t = some .string) : ReadsN P n t Kd.string WFS := by
 intro H enc w base spare held cs x h hr
 obtain ⟨z, rfl, rfl, _⟩ := DataW.trod_string ht h
 refine ⟨z, rfl, ?_⟩
 simp [DataW.weights, reachBytes] at hr
 exact (show z.size ≤ 140737488351232 from of_decide_eq_true hr)
theorem all_of {H : Type} {P : Program} {e : TypeId} : ∀ {l : List (DataW H)}, (DataW.weightsAll P e l).all (· ≤ reachBytes) = true → ∀ d ∈ l, (d.weights P e).all (· ≤ reachBytes) = true
 | [], _, d, hd => by cases hd
 | y :: r, h, d, hd => by
  simp only [DataW.weightsAll, List.all_append, Bool.and_eq_true] at h
  rcases List.mem_cons.1 hd with rfl | hd
  ·exact h.1
  ·exact all_of h.2 d hd
theorem slice {P : Program} {n : Nat} {t e : TypeId} {α : Type} {d : Kd α} {wf : α → Prop} {b : Nat} (ht : P.underlying t = some (.slice e)) (hc : P.cellsOf e = d.sz) (hb : P.bytesOf e = b) (he : ∀ m, m < n → ReadsN P m e d wf) :
  ReadsN P n t (Kd.slice e d) (WFL b wf) := by
 intro H enc w base spare held cs x h hr
 cases n with
 | zero => simp [DataW.trod] at h
 | succ n =>
  have h' := h
  simp only [DataW.trod, ht] at h'
  match cs, h' with
  | [.slice none 0 0], h' =>
   refine ⟨[], ⟨none, 0, rfl, Nat.le_refl _, rfl, by simp, fun h => absurd h (Nat.lt_irrefl 0)⟩, by simp, fun x hx => by cases hx⟩
  | [.slice (some a) len cap], h' =>
   simp only at h'
   split at h'
   ·rename_i hcond
    obtain ⟨elems, hel, h2⟩ := Option.bind_eq_some_iff.1 h'
    obtain ⟨rest, hrest, rfl⟩ := Option.map_eq_some_iff.1 h2
    simp only [DataW.weights, ht, List.all_cons, List.all_append, Bool.and_eq_true, hb, List.length_map, decide_eq_true_eq] at hr
    have hlen : elems.length = len := by simpa using mapM_some_length hel
    have hget : ∀ i, i < len → ∃ y : α, wf y ∧ ∃ c, c.length = d.sz ∧ d.K w y c ∧ ∀ j u, c[j]? = some u → w.cell? (a.add (i * d.sz + j)) = some u := by
     intro i hi
     have h3 := mapM_some_get hel i i (by simp [hi])
     rw [List.getElem?_eq_getElem (by omega)] at h3
     obtain ⟨cs', hcs, htr⟩ := Option.bind_eq_some_iff.1 h3
     obtain ⟨y, hK, hw⟩ := he n (Nat.lt_succ_self n) H enc w base spare held cs' _ htr (all_of hr.2.1 _ (List.mem_map.2 ⟨elems[i]'(by omega), List.getElem_mem _, rfl⟩))
     obtain ⟨_, hcl, hat⟩ := World.cells?_some hcs
     rw [hc] at hcl hat
     refine ⟨y, hw, cs', hcl, hK, fun j u hj => ?_⟩
     have hjl : j < d.sz := by
      rw [← hcl]
      exact (List.getElem?_eq_some_iff.1 hj).1
     rw [← Deep.add_add, hat j hjl, hj]
    rcases Nat.eq_zero_or_pos len with hz | hz
    ·subst hz
     refine ⟨[], ⟨some a, cap, rfl, Nat.zero_le _, rfl, by simp, fun h => absurd h (Nat.lt_irrefl 0)⟩, by simp, fun x hx => by cases hx⟩
    have hinh : Inhabited α := ⟨(hget 0 hz).choose⟩
    obtain ⟨f, hf⟩ := choose_lt hget
    refine ⟨(List.range len).map f, ⟨some a, cap, ?_, ?_, ?_, ?_, ?_⟩, ?_, ?_⟩
    ·simp
    ·simpa using hcond.2.1
    ·simp
    ·have := hcond.2.2
     have := hcond.2.1
     simp [maxLen] at *
     omega
    ·intro _
     refine ⟨a, rfl, fun j p hj => ?_⟩
     have hjl : j < len := by
      have := (List.getElem?_eq_some_iff.1 hj).1
      simpa using this
     simp [hjl] at hj
     subst hj
     obtain ⟨_, c, h1, h2, h3⟩ := hf j hjl
     exact ⟨c, h1, h2, h3⟩
    ·have h4 := hr.1
     simp only [reachBytes] at h4
     have : len * b ≤ (elems.length + rest.length) * b := Nat.mul_le_mul_right _ (by omega)
     simp
     omega
    ·intro y hy
     obtain ⟨i, hi, rfl⟩ := List.mem_map.1 hy
     exact (hf i (by simpa using hi)).1
   ·cases h'
theorem intR {P : Program} {t : TypeId} (ht : P.underlying t = some (.int .i64)) : Reads P t (Kd.int .i64) WFI := fun _ => int ht
theorem boolR {P : Program} {t : TypeId} (ht : P.underlying t = some .bool) : Reads P t Kd.bool (fun _ => True) := fun _ => bool ht
theorem stringR {P : Program} {t : TypeId} (ht : P.underlying t = some .string) : Reads P t Kd.string WFS := fun _ => string ht
theorem sliceR {P : Program} {t e : TypeId} {α : Type} {d : Kd α} {wf : α → Prop} {b : Nat} (ht : P.underlying t = some (.slice e)) (hc : P.cellsOf e = d.sz) (hb : P.bytesOf e = b) (he : Reads P e d wf) : Reads P t (Kd.slice e d) (WFL b wf) :=
 fun _ => slice ht hc hb (fun m _ => he m)
def FieldsN (P : Program) (n : Nat) (fs : List Field) (off : Nat) {α : Type} (d : Kd α) (wf : α → Prop) : Prop :=
 ∀ (H : Type) (enc : TypeId × Value → H) (w : World) (base : Nat) (spare : Nat → Bool) (held : Bool) (cs : List Value) (xs : List (DataW H × List MemPlace)),
  (fs.mapM fun f => DataW.trod enc P w base spare held n f.type ((cs.drop f.offset).take (P.cellsOf f.type))) = some xs →
  (DataW.weightsEach P (fs.map (·.type)) (xs.map (·.1))).all (· ≤ reachBytes) = true → cs.length = off + d.sz → ∃ a : α, d.K w a (cs.drop off) ∧ wf a
theorem last {P : Program} {n : Nat} {f : Field} {off : Nat} {α : Type} {d : Kd α} {wf : α → Prop} (ho : f.offset = off) (hc : P.cellsOf f.type = d.sz) (h : ReadsN P n f.type d wf) : FieldsN P n [f] off d wf := by
 intro H enc w base spare held cs xs hm hr hl
 simp only [List.mapM_cons, List.mapM_nil, Option.bind_eq_bind, Option.bind_eq_some_iff, Option.pure_def, Option.some.injEq] at hm
 obtain ⟨y, hy, _, rfl, rfl⟩ := hm
 rw [ho, hc, List.take_of_length_le (by rw [List.length_drop]; omega)] at hy
 simp only [List.map_cons, List.map_nil, DataW.weightsEach, List.append_nil] at hr
 exact h H enc w base spare held _ _ hy hr
theorem more {P : Program} {n : Nat} {f : Field} {fs : List Field} {off : Nat} {α β : Type} {d : Kd α} {d' : Kd β} {wf : α → Prop} {wf' : β → Prop} (ho : f.offset = off) (hc : P.cellsOf f.type = d.sz)
  (h : ReadsN P n f.type d wf) (h' : FieldsN P n fs (off + d.sz) d' wf') : FieldsN P n (f :: fs) off (Kd.pair d d') (fun x => wf x.1 ∧ wf' x.2) := by
 intro H enc w base spare held cs xs hm hr hl
 simp only [List.mapM_cons, Option.bind_eq_bind, Option.bind_eq_some_iff, Option.pure_def, Option.some.injEq] at hm
 obtain ⟨y, hy, ys, hys, rfl⟩ := hm
 simp only [List.map_cons, DataW.weightsEach, List.all_append, Bool.and_eq_true] at hr
 have hl' : cs.length = off + (d.sz + d'.sz) := hl
 rw [ho, hc] at hy
 obtain ⟨a, hK, hw⟩ := h H enc w base spare held _ _ hy hr.1
 obtain ⟨b, hK', hw'⟩ := h' H enc w base spare held cs ys hys hr.2 (by omega)
 refine ⟨(a, b), ⟨_, _, ?_, hK, hK'⟩, hw, hw'⟩
 have := (List.take_append_drop d.sz (cs.drop off)).symm
 rwa [List.drop_drop] at this
theorem struct {P : Program} {n : Nat} {t : TypeId} {fs : Array Field} {α β : Type} {d : Kd α} {wf : α → Prop} (f : β → α) (g : α → β) (hfg : ∀ a, f (g a) = a) (ht : P.underlying t = some (.struct fs)) (hc : P.cellsOf t = d.sz)
  (h : ∀ m, m < n → FieldsN P m fs.toList 0 d wf) : ReadsN P n t (Kd.iso d f) (fun x => wf (f x)) := by
 intro H enc w base spare held cs x hx hr
 cases n with
 | zero => simp [DataW.trod] at hx
 | succ n =>
  simp only [DataW.trod, ht] at hx
  have hx' : cs.length = P.cellsOf t ∧ ∃ xs, (fs.toList.mapM fun f => DataW.trod enc P w base spare held n f.type ((cs.drop f.offset).take (P.cellsOf f.type))) = some xs ∧ (.agg (xs.map (·.1)), xs.flatMap (·.2)) = x := by
   split at hx <;> simp_all
  obtain ⟨hl, xs, hm, rfl⟩ := hx'
  simp only [DataW.weights, ht] at hr
  obtain ⟨a, hK, hw⟩ := h n (Nat.lt_succ_self n) H enc w base spare held cs xs hm hr (by rw [hl, hc]; omega)
  rw [List.drop_zero] at hK
  exact ⟨g a, by show d.K w (f (g a)) cs; rw [hfg]; exact hK, by show wf (f (g a)); rw [hfg]; exact hw⟩
theorem each_of {H : Type} {P : Program} : ∀ {ts : List TypeId} {ds : List (DataW H)} {j : Nat} {t : TypeId} {d : DataW H}, (DataW.weightsEach P ts ds).all (· ≤ reachBytes) = true → ts[j]? = some t → ds[j]? = some d → (d.weights P t).all (· ≤ reachBytes) = true
 | [], _, _, _, _, _, h, _ => by simp at h
 | _ :: _, [], _, _, _, _, _, h => by simp at h
 | t0 :: ts, d0 :: ds, 0, t, d, h, ht, hd => by
  simp only [List.getElem?_cons_zero, Option.some.injEq] at ht hd
  subst ht hd
  simp only [DataW.weightsEach, List.all_append, Bool.and_eq_true] at h
  exact h.1
 | t0 :: ts, d0 :: ds, j + 1, t, d, h, ht, hd => by
  simp only [DataW.weightsEach, List.all_append, Bool.and_eq_true] at h
  exact each_of (j := j) h.2 (by simpa using ht) (by simpa using hd)
theorem arg {H : Type} {enc : TypeId × Value → H} {P : Program} {W : World} {base : Nat} {spare : Nat → Bool} {held : Bool} {t : TypeId} {v : Value} {d : DataW H} {ps : List MemPlace} {ts : List TypeId} {ds : List (DataW H)} {j : Nat} {α : Type} {k : Kd α} {wf : α → Prop}
  (hk : Reads P t k wf) (hsz : (DataW.weightsEach P ts ds).all (· ≤ reachBytes) = true) (ht : ts[j]? = some t) (hd : ds[j]? = some d) (h : DataW.Trod enc P W base spare held t v d ps) : ∃ a : α, k.K W a v.cells.toList ∧ wf a := by
 obtain ⟨fuel, hf⟩ := h
 exact hk fuel H enc W base spare held _ _ hf (each_of hsz ht hd)
end Go.Proofs.Ytgibacfgjmdjdaa.Reads
end
section
set_option linter.unusedVariables false
namespace Go.Proofs.Ytgibacfgjmdjdaa.PFnExactIsStable
open Go.RowKit Go.Proofs.YtgibacfgjmdjdaaW.PrintWords Go.Proofs.YtgibacfgjmdjdaaW.PrintLast Go.Proofs.Ytgibacfgjmdjdaa
def wf107 (x : S107) : Prop := Reads.WFI x.f0 ∧ (Reads.WFI x.f1 ∧ (Reads.WFI x.f2))
def wf109 (x : S109) : Prop := Reads.WFI x.f0 ∧ (Reads.WFI x.f1 ∧ (Reads.WFI x.f2 ∧ (Reads.WFI x.f3 ∧ (Reads.WFI x.f4))))
def wf111 (x : S111) : Prop := Reads.WFI x.f0 ∧ (Reads.WFI x.f1 ∧ (Reads.WFI x.f2 ∧ (Reads.WFI x.f3)))
def wf103 (x : S103) : Prop := Reads.WFI x.f0 ∧ (Reads.WFI x.f1 ∧ (Reads.WFI x.f2 ∧ ((fun _ : Bool => True) x.f3)))
def laws_FnExactCandidates.Pure : Prop := ∀ (l0_0 : List ByteArray) (l0_1 : List (S107)) (l0_2 : List Int) (l0_3 : List Int) (l0_4 : List (S109)) (l0_5 : List (S111)) (a1 : Int) (l2 : List Int) (l3 : List Bool) (l4 : List (S103)), (Reads.WFL 16 Reads.WFS) l0_0 → (Reads.WFL 24 wf107) l0_1 → (Reads.WFL 8 Reads.WFI) l0_2 → (Reads.WFL 8 Reads.WFI) l0_3 → (Reads.WFL 40 wf109) l0_4 → (Reads.WFL 32 wf111) l0_5 → Reads.WFI a1 → (Reads.WFL 8 Reads.WFI) l2 → (Reads.WFL 1 (fun _ : Bool => True)) l3 → (Reads.WFL 32 wf103) l4 → ∃ k, laws_FnExactCandidates.f k l0_0 l0_1 l0_2 l0_3 l0_4 l0_5 a1 l2 l3 l4 = some true
theorem rk107 : Reads.Reads Try.prog 107 k107 wf107 := fun _ => Reads.struct (fun x : S107 => (x.f0, x.f1, x.f2)) (fun p => ⟨p.1, p.2.1, p.2.2⟩) (fun _ => rfl) Try.underlying107 (by kernel_rfl) (fun m _ => (Reads.more rfl (by kernel_rfl) ((Reads.intR Try.underlying3) m) (Reads.more rfl (by kernel_rfl) ((Reads.intR Try.underlying3) m) (Reads.last rfl (by kernel_rfl) ((Reads.intR Try.underlying3) m)))))
theorem rk109 : Reads.Reads Try.prog 109 k109 wf109 := fun _ => Reads.struct (fun x : S109 => (x.f0, x.f1, x.f2, x.f3, x.f4)) (fun p => ⟨p.1, p.2.1, p.2.2.1, p.2.2.2.1, p.2.2.2.2⟩) (fun _ => rfl) Try.underlying109 (by kernel_rfl) (fun m _ => (Reads.more rfl (by kernel_rfl) ((Reads.intR Try.underlying3) m) (Reads.more rfl (by kernel_rfl) ((Reads.intR Try.underlying3) m) (Reads.more rfl (by kernel_rfl) ((Reads.intR Try.underlying3) m) (Reads.more rfl (by kernel_rfl) ((Reads.intR Try.underlying3) m) (Reads.last rfl (by kernel_rfl) ((Reads.intR Try.underlying3) m)))))))
theorem rk111 : Reads.Reads Try.prog 111 k111 wf111 := fun _ => Reads.struct (fun x : S111 => (x.f0, x.f1, x.f2, x.f3)) (fun p => ⟨p.1, p.2.1, p.2.2.1, p.2.2.2⟩) (fun _ => rfl) Try.underlying111 (by kernel_rfl) (fun m _ => (Reads.more rfl (by kernel_rfl) ((Reads.intR Try.underlying3) m) (Reads.more rfl (by kernel_rfl) ((Reads.intR Try.underlying3) m) (Reads.more rfl (by kernel_rfl) ((Reads.intR Try.underlying3) m) (Reads.last rfl (by kernel_rfl) ((Reads.intR Try.underlying3) m))))))
theorem rk103 : Reads.Reads Try.prog 103 k103 wf103 := fun _ => Reads.struct (fun x : S103 => (x.f0, x.f1, x.f2, x.f3)) (fun p => ⟨p.1, p.2.1, p.2.2.1, p.2.2.2⟩) (fun _ => rfl) Try.underlying103 (by kernel_rfl) (fun m _ => (Reads.more rfl (by kernel_rfl) ((Reads.intR Try.underlying3) m) (Reads.more rfl (by kernel_rfl) ((Reads.intR Try.underlying3) m) (Reads.more rfl (by kernel_rfl) ((Reads.intR Try.underlying3) m) (Reads.last rfl (by kernel_rfl) ((Reads.boolR Try.underlying4) m))))))
end Go.Proofs.Ytgibacfgjmdjdaa.PFnExactIsStable
end
section
set_option linter.unusedVariables false
set_option linter.unusedSimpArgs false
namespace Go.Proofs.Ytgibacfgjmdjdaa.Plain
open Go.RowKit Go.Proofs.YtgibacfgjmdjdaaW.PrintWords
section
variable {α β : Type}
theorem ifp {c : Prop} [Decidable c] {f g : Nat → Option α} {r : α} (h : c) (k : Ev f r) : Ev (fun n => if c then f n else g n) r := by
 obtain ⟨K, hK⟩ := k
 exact ⟨K, fun n hn => by simp only [if_pos h]; exact hK n hn⟩
theorem ifn {c : Prop} [Decidable c] {f g : Nat → Option α} {r : α} (h : ¬ c) (k : Ev g r) : Ev (fun n => if c then f n else g n) r := by
 obtain ⟨K, hK⟩ := k
 exact ⟨K, fun n hn => by simp only [if_neg h]; exact hK n hn⟩
theorem bnd {g : Nat → Option α} {f : Nat → α → Option β} {a : α} {r : β} (h : Ev g a) (k : Ev (fun n => f n a) r) : Ev (fun n => (g n).bind (f n)) r := Ev.bind h k
theorem bnd0 {g : Option α} {f : Nat → α → Option β} {a : α} {r : β} (h : g = some a) (k : Ev (fun n => f n a) r) : Ev (fun n => g.bind (f n)) r := by
 obtain ⟨K, hK⟩ := k
 exact ⟨K, fun n hn => by rw [h]; exact hK n hn⟩
theorem stp {g f : Nat → Option α} {r : α} (h : ∀ k, g (k + 1) = f k) (k : Ev f r) : Ev g r := Ev.step h k
theorem evc {g f : Nat → Option α} {r : α} (h : ∀ k, g k = f k) (k : Ev f r) : Ev g r := Ev.congr h k
theorem sm (r : α) : Ev (fun _ => some r) r := Ev.now r
theorem one {g : Option α} {r : α} (h : g = some r) : Ev (fun _ => g) r := ⟨0, fun _ _ => h⟩
end
theorem up {i n : Int} (h0 : 0 ≤ i) (h : i < n) (hn : n ≤ 9223372036854775807) : wrap64 (i + 1) = i + 1 := by
 unfold wrap64
 omega
theorem w64 {x : Int} (h0 : -9223372036854775808 ≤ x) (h : x ≤ 9223372036854775807) : wrap64 x = x := by
 unfold wrap64
 omega
theorem set_take {α β : Type} (f : α → β) (xs : List α) (out : List β) (i : Nat) (x : α) (hx : xs[i]? = some x) (hl : out.length = xs.length) (h : out.take i = (xs.take i).map f) :
  (out.set i (f x)).take (i + 1) = (xs.take (i + 1)).map f := by
 have hi : i < xs.length := (List.getElem?_eq_some_iff.1 hx).1
 rw [List.take_succ_eq_append_getElem (by simp; omega), List.take_succ_eq_append_getElem hi, List.map_append, List.map_singleton, ← h]
 congr 1
 ·rw [List.take_set]
  apply List.set_eq_of_length_le
  simp
  omega
 ·rw [List.getElem_set_self]
  rw [(List.getElem?_eq_some_iff.1 hx).2]
theorem copy {α β : Type} (f : α → β) (xs : List α) (L : Int → List β → Nat → Option (List β))
  (hend : ∀ out, Ev (L (xs.length : Int) out) out)
  (hstep : ∀ (i : Nat) (out : List β) (r : List β) (x : α), xs[i]? = some x → out.length = xs.length → Ev (L ((i : Int) + 1) (out.set i (f x))) r → Ev (L (i : Int) out) r) :
  ∀ out, out.length = xs.length → Ev (L 0 out) (xs.map f) := by
 have key : ∀ (d i : Nat) (out : List β), i + d = xs.length → out.length = xs.length → out.take i = (xs.take i).map f → Ev (L (i : Int) out) (xs.map f) := by
  intro d
  induction d with
  | zero =>
   intro i out hd hl ht
   have hi : i = xs.length := by omega
   subst hi
   rw [List.take_of_length_le (by omega), List.take_of_length_le (by omega)] at ht
   subst ht
   exact hend _
  | succ d ih =>
   intro i out hd hl ht
   have hi : i < xs.length := by omega
   have hx : xs[i]? = some xs[i] := List.getElem?_eq_getElem hi
   refine hstep i out _ _ hx hl ?_
   have := ih (i + 1) (out.set i (f xs[i])) (by omega) (by simpa using hl) (set_take f xs out i _ hx hl ht)
   rwa [show ((i + 1 : Nat) : Int) = (i : Int) + 1 by omega] at this
 intro out hl
 have := key xs.length 0 out (by omega) hl (by simp)
 simpa using this
theorem same {α : Type} (xs : List α) (L : Int → Nat → Option Bool)
  (hend : Ev (L (xs.length : Int)) true)
  (hstep : ∀ (i : Nat) (x : α), xs[i]? = some x → Ev (L ((i : Int) + 1)) true → Ev (L (i : Int)) true) : Ev (L 0) true := by
 have key : ∀ (d i : Nat), i + d = xs.length → Ev (L (i : Int)) true := by
  intro d
  induction d with
  | zero =>
   intro i hd
   have hi : i = xs.length := by omega
   subst hi
   exact hend
  | succ d ih =>
   intro i hd
   have hi : i < xs.length := by omega
   refine hstep i _ (List.getElem?_eq_getElem hi) ?_
   have := ih (i + 1) (by omega)
   rwa [show ((i + 1 : Nat) : Int) = (i : Int) + 1 by omega] at this
 simpa using key xs.length 0 (by omega)
theorem getD_some {α : Type} {xs : List α} {i : Nat} {x d : α} (h : xs[i]? = some x) : xs.getD ((i : Int).toNat) d = x := by
 simp [List.getD, h]
end Go.Proofs.Ytgibacfgjmdjdaa.Plain
end
