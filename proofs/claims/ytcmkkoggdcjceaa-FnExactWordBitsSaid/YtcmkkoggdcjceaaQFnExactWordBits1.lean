/- FnExactWordBits: for every input the law returns true. The texts that this program's session printed and proved for it, those that the proof uses, laid together. Conditions: the form's own reach alone. -/
import Derived.Test.YtcmkkoggdcjceaaQFnExactWordBits0
import Derived.Test.YtcmkkoggdcjceaaProg
import Derived.Below
import Derived.Deep.Draws
import Derived.Deep.AppendLies
import Derived.Maps.AppendAt
import Derived.OwnWalk
import Derived.Laws.BytesArg
import Derived.Laws.MakeOwn
import Derived.Laws.OwnMore
import Derived.Deep.OwnRows
import Derived.Tactics
import Derived.Lib.ConvBytes
import Derived.Laws.Slices
import Derived.WalkKit
import Derived.KernelRfl
import Derived.RowKit3
import Derived.Deep.LoopGhost
import Derived.Deep.QuietTactic
import Derived.BigQuiet
import Derived.WideLaws
import Derived.Deep.DeepCutAuto
import Derived.Deep.CutBlock
import Derived.Deep.RegionHeld3
import Derived.Laws.Rows
import Derived.Lib.AppendStr
import Derived.ArgAppend
import Derived.Laws.IdiomCopy
import Derived.OrdersHeld
import Derived.Laws.BitsLemmas
import Derived.RowKit
import Derived.Shelf.Abstract
import Derived.Deep.Slices
import Derived.IntWalk
import Derived.WalkSpells
section
namespace Go.Proofs.Ytcmkkoggdcjceaa.PFnExactWordBits
open Go.RowKit Go.Proofs.YtcmkkoggdcjceaaW.PrintWords Go.Proofs.YtcmkkoggdcjceaaW.PrintLast Go.Proofs.YtcmkkoggdcjceaaW.PrintMore
attribute [local go_sem] max2_int min2_int max_two min_two max_three min_three max_four min_four   -- for this text's walks alone
set_option linter.unusedVariables false
set_option linter.unusedSimpArgs false
def errW : Option Int → Value
 | none => .nilIface
 | some c => .iface 0 (.int .i64 c)
theorem errW_none : errW none = .nilIface := rfl
theorem errW_some (c : Int) : errW (some c) = .iface 0 (.int .i64 c) := rfl
theorem info31 : (Try.prog.info? 31).map (fun i => (i.zero, i.size, i.bytes)) = some (some (.agg #[(.int .i64 0), (.int .i64 0), (.slice none 0 0)]), 3, 40) := by kernel_rfl
theorem info81 : (Try.prog.info? 81).map (fun i => (i.zero, i.size, i.bytes)) = some (some (.agg #[(.int .i64 0), (.int .i64 0), (.slice none 0 0)]), 3, 40) := by kernel_rfl
structure S31 where
 f0 : Int
 f1 : Int
 f2 : (List S31)
def z31 : S31 := ⟨(0 : Int), (0 : Int), ([] : List S31)⟩
def F31 (d : Kd S31) : Kd S31 := Kd.iso (Kd.pair (Kd.int .i64) (Kd.pair (Kd.int .i64) (Kd.slice 31 d))) (fun x : S31 => (x.f0, x.f1, x.f2))
theorem mono31 : Kd.Mono F31 := Kd.mono_iso _ (Kd.mono_pair (Kd.mono_const _) (Kd.mono_pair (Kd.mono_const _) (Kd.mono_slice 31 Kd.mono_id)))
theorem sub31 : Kd.Sub F31 [31] := Kd.sub_iso _ (Kd.sub_pair (Kd.sub_const _ (by decide)) (Kd.sub_pair (Kd.sub_const _ (by decide)) (Kd.sub_slice 31 (by decide) Kd.sub_id)))
theorem sz31 : ∀ n, (Kd.upto F31 3 [31] n).sz = 3 := Kd.upto_sz (fun _ => rfl)
def k31 : Kd S31 := Kd.fix F31 3 [31] sz31 (Kd.upto_E sub31)
theorem k31_open {w : World} {x : S31} {cs : List Value} (h : k31.K w x cs) : ∃ A2 c2, cs = [.int .i64 x.f0, .int .i64 x.f1, .slice A2 x.f2.length c2] ∧ x.f2.length ≤ c2 ∧ k31.C w A2 x.f2.length x.f2 := by
 obtain ⟨n, h⟩ := h
 cases n with
 | zero => exact h.elim
 | succ n =>
  obtain ⟨_, _, rfl, rfl, ⟨_, _, rfl, rfl, ⟨A2, c2, rfl, l2, g2⟩⟩⟩ := h
  exact ⟨A2, c2, rfl, l2, Kd.fix_C g2⟩
theorem k31_mk (w : World) (x : S31) {A2 : Option Addr} {c2 : Nat} (l2 : x.f2.length ≤ c2) (g2 : k31.C w A2 x.f2.length x.f2) : k31.K w x [.int .i64 x.f0, .int .i64 x.f1, .slice A2 x.f2.length c2] := by
 obtain ⟨n2, q2⟩ := Kd.fix_C_back mono31 g2
 have r2 := Kd.upto_C_le mono31 sz31 (show n2 ≤ n2 by omega) q2
 exact ⟨n2 + 1, ⟨[.int .i64 x.f0], [.int .i64 x.f1, .slice A2 x.f2.length c2], rfl, rfl, ⟨[.int .i64 x.f1], [.slice A2 x.f2.length c2], rfl, rfl, ⟨A2, c2, rfl, l2, r2⟩⟩⟩⟩
theorem k31_mkM (w : World) (base : Nat) (ok : Nat → Prop) (x : S31) {v2 : Value} (g2 : k31.R 31 w base ok v2 x.f2) : k31.M w base ok x [.int .i64 x.f0, .int .i64 x.f1, v2] := by
 obtain ⟨n2, q2⟩ := Kd.fix_R_back mono31 g2
 have r2 := Kd.upto_R_le mono31 sz31 (show n2 ≤ n2 by omega) q2
 exact ⟨n2 + 1, ⟨[.int .i64 x.f0], [.int .i64 x.f1, v2], rfl, rfl, ⟨[.int .i64 x.f1], [v2], rfl, rfl, ⟨v2, rfl, r2⟩⟩⟩⟩
theorem k31_openF {W : World} {ok : Nat → Prop} {x : S31} {cs : List Value} (h : Kd.FK k31 W ok x cs) : ∃ A2 c2, cs = [.int .i64 x.f0, .int .i64 x.f1, .slice A2 x.f2.length c2] ∧ x.f2.length ≤ c2 ∧ Kd.F k31 W ok A2 x.f2.length x.f2 := by
 obtain ⟨A2, c2, rfl, l2, _⟩ := k31_open (Kd.FK_now h)
 exact ⟨A2, c2, rfl, l2, (fun W' hW => by obtain ⟨A2_, c2_, he, l2_, g2_⟩ := k31_open (h W' hW); injection (Option.some.inj (show some (Value.slice A2 x.f2.length c2) = some (Value.slice A2_ x.f2.length c2_) from congrArg (fun l => l[2]?) he)) with ha_ _ _; rw [ha_]; exact g2_)⟩
theorem k31_mkF (W : World) (ok : Nat → Prop) (x : S31) {A2 : Option Addr} {c2 : Nat} (l2 : x.f2.length ≤ c2) (g2 : Kd.F k31 W ok A2 x.f2.length x.f2) : Kd.FK k31 W ok x [.int .i64 x.f0, .int .i64 x.f1, .slice A2 x.f2.length c2] := fun W2 hW => k31_mk W2 x l2 (g2 W2 hW)
def rd_T31 (xs : List S31) (i : Int) : S31 := xs.getD i.toNat z31
theorem at_T31 {w : World} {A : Option Addr} {n : Nat} {xs : List S31} (h : Kd.C k31 w A n xs) (i : Int) (h0 : 0 ≤ i) (h1 : i < n) : ∃ ad A2 c2, A = some ad ∧ w.cell? (ad.add (i.toNat * 3)) = some (.int .i64 (rd_T31 xs i).f0) ∧ w.cell? ⟨(ad.add (i.toNat * 3)).block, (ad.add (i.toNat * 3)).off + 1, none⟩ = some (.int .i64 (rd_T31 xs i).f1) ∧ w.cell? ⟨(ad.add (i.toNat * 3)).block, (ad.add (i.toNat * 3)).off + 2, none⟩ = some (.slice A2 (rd_T31 xs i).f2.length c2) ∧ (rd_T31 xs i).f2.length ≤ c2 ∧ k31.C w A2 (rd_T31 xs i).f2.length (rd_T31 xs i).f2 := by
 obtain ⟨ad, c, e, _, hK, hc0⟩ := Kd.C_get h z31 i h0 h1
 have hc : ∀ j u, c[j]? = some u → w.cell? (ad.add (i.toNat * 3 + j)) = some u := hc0
 obtain ⟨A2, c2, rfl, l2, g2⟩ := k31_open hK
 exact ⟨ad, A2, c2, e, hc 0 _ rfl, by rw [← add_field _ _ 1 (by omega)]; exact hc 1 _ rfl, by rw [← add_field _ _ 2 (by omega)]; exact hc 2 _ rfl, l2, g2⟩
structure S75 where
 f0 : Int
 f1 : Int
 f2 : (List S75)
def z75 : S75 := ⟨(0 : Int), (0 : Int), ([] : List S75)⟩
def F75 (d : Kd S75) : Kd S75 := Kd.iso (Kd.pair (Kd.int .i64) (Kd.pair (Kd.int .i64) (Kd.slice 75 d))) (fun x : S75 => (x.f0, x.f1, x.f2))
theorem sub75 : Kd.Sub F75 [75] := Kd.sub_iso _ (Kd.sub_pair (Kd.sub_const _ (by decide)) (Kd.sub_pair (Kd.sub_const _ (by decide)) (Kd.sub_slice 75 (by decide) Kd.sub_id)))
theorem sz75 : ∀ n, (Kd.upto F75 3 [75] n).sz = 3 := Kd.upto_sz (fun _ => rfl)
def k75 : Kd S75 := Kd.fix F75 3 [75] sz75 (Kd.upto_E sub75)
theorem k75_open {w : World} {x : S75} {cs : List Value} (h : k75.K w x cs) : ∃ A2 c2, cs = [.int .i64 x.f0, .int .i64 x.f1, .slice A2 x.f2.length c2] ∧ x.f2.length ≤ c2 ∧ k75.C w A2 x.f2.length x.f2 := by
 obtain ⟨n, h⟩ := h
 cases n with
 | zero => exact h.elim
 | succ n =>
  obtain ⟨_, _, rfl, rfl, ⟨_, _, rfl, rfl, ⟨A2, c2, rfl, l2, g2⟩⟩⟩ := h
  exact ⟨A2, c2, rfl, l2, Kd.fix_C g2⟩
def rd_T75 (xs : List S75) (i : Int) : S75 := xs.getD i.toNat z75
theorem at_T75 {w : World} {A : Option Addr} {n : Nat} {xs : List S75} (h : Kd.C k75 w A n xs) (i : Int) (h0 : 0 ≤ i) (h1 : i < n) : ∃ ad A2 c2, A = some ad ∧ w.cell? (ad.add (i.toNat * 3)) = some (.int .i64 (rd_T75 xs i).f0) ∧ w.cell? ⟨(ad.add (i.toNat * 3)).block, (ad.add (i.toNat * 3)).off + 1, none⟩ = some (.int .i64 (rd_T75 xs i).f1) ∧ w.cell? ⟨(ad.add (i.toNat * 3)).block, (ad.add (i.toNat * 3)).off + 2, none⟩ = some (.slice A2 (rd_T75 xs i).f2.length c2) ∧ (rd_T75 xs i).f2.length ≤ c2 ∧ k75.C w A2 (rd_T75 xs i).f2.length (rd_T75 xs i).f2 := by
 obtain ⟨ad, c, e, _, hK, hc0⟩ := Kd.C_get h z75 i h0 h1
 have hc : ∀ j u, c[j]? = some u → w.cell? (ad.add (i.toNat * 3 + j)) = some u := hc0
 obtain ⟨A2, c2, rfl, l2, g2⟩ := k75_open hK
 exact ⟨ad, A2, c2, e, hc 0 _ rfl, by rw [← add_field _ _ 1 (by omega)]; exact hc 1 _ rfl, by rw [← add_field _ _ 2 (by omega)]; exact hc 2 _ rfl, l2, g2⟩
structure S81 where
 f0 : Int
 f1 : Int
 f2 : (List S81)
def z81 : S81 := ⟨(0 : Int), (0 : Int), ([] : List S81)⟩
def F81 (d : Kd S81) : Kd S81 := Kd.iso (Kd.pair (Kd.int .i64) (Kd.pair (Kd.int .i64) (Kd.slice 81 d))) (fun x : S81 => (x.f0, x.f1, x.f2))
theorem mono81 : Kd.Mono F81 := Kd.mono_iso _ (Kd.mono_pair (Kd.mono_const _) (Kd.mono_pair (Kd.mono_const _) (Kd.mono_slice 81 Kd.mono_id)))
theorem sub81 : Kd.Sub F81 [81] := Kd.sub_iso _ (Kd.sub_pair (Kd.sub_const _ (by decide)) (Kd.sub_pair (Kd.sub_const _ (by decide)) (Kd.sub_slice 81 (by decide) Kd.sub_id)))
theorem sz81 : ∀ n, (Kd.upto F81 3 [81] n).sz = 3 := Kd.upto_sz (fun _ => rfl)
def k81 : Kd S81 := Kd.fix F81 3 [81] sz81 (Kd.upto_E sub81)
theorem k81_open {w : World} {x : S81} {cs : List Value} (h : k81.K w x cs) : ∃ A2 c2, cs = [.int .i64 x.f0, .int .i64 x.f1, .slice A2 x.f2.length c2] ∧ x.f2.length ≤ c2 ∧ k81.C w A2 x.f2.length x.f2 := by
 obtain ⟨n, h⟩ := h
 cases n with
 | zero => exact h.elim
 | succ n =>
  obtain ⟨_, _, rfl, rfl, ⟨_, _, rfl, rfl, ⟨A2, c2, rfl, l2, g2⟩⟩⟩ := h
  exact ⟨A2, c2, rfl, l2, Kd.fix_C g2⟩
theorem k81_mk (w : World) (x : S81) {A2 : Option Addr} {c2 : Nat} (l2 : x.f2.length ≤ c2) (g2 : k81.C w A2 x.f2.length x.f2) : k81.K w x [.int .i64 x.f0, .int .i64 x.f1, .slice A2 x.f2.length c2] := by
 obtain ⟨n2, q2⟩ := Kd.fix_C_back mono81 g2
 have r2 := Kd.upto_C_le mono81 sz81 (show n2 ≤ n2 by omega) q2
 exact ⟨n2 + 1, ⟨[.int .i64 x.f0], [.int .i64 x.f1, .slice A2 x.f2.length c2], rfl, rfl, ⟨[.int .i64 x.f1], [.slice A2 x.f2.length c2], rfl, rfl, ⟨A2, c2, rfl, l2, r2⟩⟩⟩⟩
def rd_T81 (xs : List S81) (i : Int) : S81 := xs.getD i.toNat z81
theorem at_T81 {w : World} {A : Option Addr} {n : Nat} {xs : List S81} (h : Kd.C k81 w A n xs) (i : Int) (h0 : 0 ≤ i) (h1 : i < n) : ∃ ad A2 c2, A = some ad ∧ w.cell? (ad.add (i.toNat * 3)) = some (.int .i64 (rd_T81 xs i).f0) ∧ w.cell? ⟨(ad.add (i.toNat * 3)).block, (ad.add (i.toNat * 3)).off + 1, none⟩ = some (.int .i64 (rd_T81 xs i).f1) ∧ w.cell? ⟨(ad.add (i.toNat * 3)).block, (ad.add (i.toNat * 3)).off + 2, none⟩ = some (.slice A2 (rd_T81 xs i).f2.length c2) ∧ (rd_T81 xs i).f2.length ≤ c2 ∧ k81.C w A2 (rd_T81 xs i).f2.length (rd_T81 xs i).f2 := by
 obtain ⟨ad, c, e, _, hK, hc0⟩ := Kd.C_get h z81 i h0 h1
 have hc : ∀ j u, c[j]? = some u → w.cell? (ad.add (i.toNat * 3 + j)) = some u := hc0
 obtain ⟨A2, c2, rfl, l2, g2⟩ := k81_open hK
 exact ⟨ad, A2, c2, e, hc 0 _ rfl, by rw [← add_field _ _ 1 (by omega)]; exact hc 1 _ rfl, by rw [← add_field _ _ 2 (by omega)]; exact hc 2 _ rfl, l2, g2⟩
end Go.Proofs.Ytcmkkoggdcjceaa.PFnExactWordBits
end
section
namespace Go.Proofs.Ytcmkkoggdcjceaa.PFnExactWordBits
open Go.RowKit Go.Proofs.YtcmkkoggdcjceaaW.PrintWords Go.Proofs.YtcmkkoggdcjceaaW.PrintLast Go.Proofs.YtcmkkoggdcjceaaW.PrintMore
attribute [local go_sem] max2_int min2_int max_two min_two max_three min_three max_four min_four   -- for this text's walks alone
set_option linter.unusedVariables false
set_option linter.unusedSimpArgs false
def laws_eqEx.g (F_ : List (S31) → List (S31) → Option (Bool)) (a0_0 : Int) (a0_1 : Int) (l0_2 : List (S31)) (a1_0 : Int) (a1_1 : Int) (l1_2 : List (S31)) : Option (Bool) := if a0_0 = a1_0 then (if a0_1 = a1_1 then ((F_ l0_2 l1_2).bind fun t103 => (if t103 = true then (some true) else (some false))) else (some false)) else (some false)
mutual
def laws_eqExS.l0 : Nat → List (S31) → List (S31) → Int → Option (Bool)
 | 0, _, _, _ => none
 | k + 1, x0, x1, x5 => if x5 < (x0.length : Int) then (if 0 ≤ x5 then (if x5 < (x1.length : Int) then ((laws_eqEx.g (laws_eqExS.f k) ((rd_T31 x0 x5).f0) ((rd_T31 x0 x5).f1) ((rd_T31 x0 x5).f2) ((rd_T31 x1 x5).f0) ((rd_T31 x1 x5).f1) ((rd_T31 x1 x5).f2)).bind fun t106 => (if t106 = true then (laws_eqExS.l0 k x0 x1 (wrap64 (x5 + 1))) else (some false))) else (none)) else (none)) else (some true)
def laws_eqExS.f : Nat → List (S31) → List (S31) → Option (Bool)
 | 0, _, _ => none
 | k + 1, l0, l1 => if (l0.length : Int) = (l1.length : Int) then (laws_eqExS.l0 k l0 l1 0) else (some false)
end
def laws_eqExS.T6 : Bool × List (List Nat × List Nat) := (true, [([], []), ([], []), ([0, 1], [0, 1]), ([2], [2]), ([], []), ([], []), ([4, 5], [4, 5]), ([6], [6]), ([3, 7], [3, 7]), ([8], [8])])
def laws_eqExS.B6 : List Nat := [0, 0, 3, 7, 0, 0, 48, 112, 255, 511]
theorem laws_eqExS.tab6 : rtab .any (opsOf Try.f33 6) = laws_eqExS.T6 := by kernel_rfl
theorem laws_eqExS.bits6 : waitsOk laws_eqExS.T6.2 laws_eqExS.B6 = true := by kernel_rfl
set_option maxHeartbeats 8000000 in
set_option maxRecDepth 100000 in
theorem laws_eqEx.calls_g (k : Nat) (hF_ : ∀ (A0 : Option Addr) (c0 : Nat) (l0 : List (S31)) (A1 : Option Addr) (c1 : Nat) (l1 : List (S31)) (r : Bool) (w : World) (hr0 : Kd.C k31 w A0 l0.length l0) (hc0 : l0.length ≤ c0) (hr1 : Kd.C k31 w A1 l1.length l1) (hc1 : l1.length ≤ c1) (h : laws_eqExS.f k l0 l1 = some r), Calls Try.prog 33 #[.slice A0 l0.length c0, .slice A1 l1.length c1] w fun e w' => e = .returned (.bool r) ∧ Below w.heap.size w w') (a0_0 : Int) (a0_1 : Int) (A0_2 : Option Addr) (c0_2 : Nat) (l0_2 : List (S31)) (a1_0 : Int) (a1_1 : Int) (A1_2 : Option Addr) (c1_2 : Nat) (l1_2 : List (S31)) (r : Bool) (w : World) (hr0_2 : Kd.C k31 w A0_2 l0_2.length l0_2) (hc0_2 : l0_2.length ≤ c0_2) (hr1_2 : Kd.C k31 w A1_2 l1_2.length l1_2) (hc1_2 : l1_2.length ≤ c1_2) (h : laws_eqEx.g (laws_eqExS.f k) a0_0 a0_1 l0_2 a1_0 a1_1 l1_2 = some r) :
  Calls Try.prog 16 #[.agg #[.int .i64 a0_0, .int .i64 a0_1, .slice A0_2 l0_2.length c0_2], .agg #[.int .i64 a1_0, .int .i64 a1_1, .slice A1_2 l1_2.length c1_2]] w fun e w' => e = .returned (.bool r) ∧ Below w.heap.size w w' := by
 have hu31 := Try.underlying31
 have HR0_2 := Aside0.mk hr0_2
 have HC0_2 := Aside0.mk hc0_2
 clear hr0_2 hc0_2
 have HR1_2 := Aside0.mk hr1_2
 have HC1_2 := Aside0.mk hc1_2
 clear hr1_2 hc1_2
 have HB := Aside0.mk (Below.refl w.heap.size w)
 have H : (if a0_0 = a1_0 then (if a0_1 = a1_1 then ((laws_eqExS.f k l0_2 l1_2).bind fun t103 => (if t103 = true then (some true) else (some false))) else (some false)) else (some false)) = some r := h
 clear h
 by_cases c3 : a0_0 = a1_0
 ·rw [if_pos c3] at H
  have c3b0 : (a0_0 == a1_0) = true := beq_iff_eq.mpr c3
  have c3b1 : (a0_0 != a1_0) = false := bne_eq_false_iff_eq.mpr c3
  clear c3
  by_cases c4 : a0_1 = a1_1
  ·rw [if_pos c4] at H
   have c4b0 : (a0_1 == a1_1) = true := beq_iff_eq.mpr c4
   have c4b1 : (a0_1 != a1_1) = false := bne_eq_false_iff_eq.mpr c4
   clear c4
   replace H := Option.bind_eq_some_iff.mp H
   obtain ⟨t103, A50, H⟩ := H
   replace H : (if t103 = true then (some true) else (some false)) = some r := H
   have A5 := Aside0.mk A50
   clear A50
   by_cases c6 : t103 = true
   ·subst c6
    have H1 : (some true) = some r := by rw [if_pos rfl] at H; exact H
    clear H
    have H := H1
    clear H1
    obtain rfl := Option.some.inj H
    go_enter Try.func16, Try.ntmps16
    go_wp2_with (first | ((with_reducible refine gate_dst (N := 2) rfl ?_); refine box_event ?hg (N := 2) ?hd (cs := #[.int .i64 a0_0, .int .i64 a0_1, .slice A0_2 l0_2.length c0_2]) (t := 31) ?hr ?_; (case hd => rfl); (case hg => rfl); (case hr => first | (go_simp; done) | (go_simp; rfl)); intro gb101 hg w7 hbox hb; have n0_ := Aside0.mk (below_step (by repeat (first | (with_reducible first | exact HB.out | apply below_alloc | apply pw_below_drewN | apply below_drew1) | exact HB.out)) hb); have n1_ := Aside0.mk (hbox); have n2_ := Aside0.mk ((by rw [hg]; exact (below_size (by repeat (first | (with_reducible first | exact HB.out | apply below_alloc | apply pw_below_drewN | apply below_drew1) | exact HB.out))) : w.heap.size ≤ gb101)); have n3_ := Aside0.mk ((by rw [hg]; exact (below_size (by repeat (first | (with_reducible first | exact HB.out | apply below_alloc | apply pw_below_drewN | apply below_drew1) | exact HB.out))) : w.heap.size ≤ gb101)); clear HB; have HB := n0_; have BK101 := n1_; have GW101 := n2_; have GE101 := n3_; clear n0_ n1_ n2_ n3_; clear hb hbox hg) | ((with_reducible refine gate_dst (N := 3) rfl ?_); refine box_event ?hg (N := 3) ?hd (cs := #[.int .i64 a1_0, .int .i64 a1_1, .slice A1_2 l1_2.length c1_2]) (t := 31) ?hr ?_; (case hd => rfl); (case hg => rfl); (case hr => first | (go_simp; done) | (go_simp; rfl)); intro gb102 hg w8 hbox hb; have n0_ := Aside0.mk (blk_below (g := gb101) (o := .cells #[.int .i64 a0_0, .int .i64 a0_1, .slice A0_2 l0_2.length c0_2] 31 (0, 0)) (by (with_reducible repeat (first | refine blk_drewN ?_ _ | refine blk_drew ?_ | refine blk_alloc ?_ _)); exact BK101.out) hb); have n1_ := Aside0.mk (below_step (by repeat (first | (with_reducible first | exact HB.out | apply below_alloc | apply pw_below_drewN | apply below_drew1 | refine below_set ?_ GE101.out) | exact HB.out)) hb); have n2_ := Aside0.mk (hbox); have n3_ := Aside0.mk ((by rw [hg]; exact (below_size (by repeat (first | (with_reducible first | exact HB.out | apply below_alloc | apply pw_below_drewN | apply below_drew1 | refine below_set ?_ GE101.out) | exact HB.out))) : w.heap.size ≤ gb102)); have n4_ := Aside0.mk ((by rw [hg]; exact (below_size (by repeat (first | (with_reducible first | exact HB.out | apply below_alloc | apply pw_below_drewN | apply below_drew1 | refine below_set ?_ GE101.out) | exact HB.out))) : w.heap.size ≤ gb102)); have n5_ := Aside0.mk ((by rw [hg]; exact Nat.ne_of_lt (blk_lt (g := gb101) (o := .cells #[.int .i64 a0_0, .int .i64 a0_1, .slice A0_2 l0_2.length c0_2] 31 (0, 0)) (by (with_reducible repeat (first | refine blk_drewN ?_ _ | refine blk_drew ?_ | refine blk_alloc ?_ _)); exact BK101.out)) : gb101 ≠ gb102)); have n6_ := Aside0.mk ((by rw [hg]; exact Nat.ne_of_gt (blk_lt (g := gb101) (o := .cells #[.int .i64 a0_0, .int .i64 a0_1, .slice A0_2 l0_2.length c0_2] 31 (0, 0)) (by (with_reducible repeat (first | refine blk_drewN ?_ _ | refine blk_drew ?_ | refine blk_alloc ?_ _)); exact BK101.out)) : gb102 ≠ gb101)); clear BK101; clear HB; have BK101 := n0_; have HB := n1_; have BK102 := n2_; have GW102 := n3_; have GE102 := n4_; have NB101_102 := n5_; have NB102_101 := n6_; clear n0_ n1_ n2_ n3_ n4_ n5_ n6_; clear hb hbox hg; have hnb9 := NB101_102.out; have hnc9 := NB102_101.out; have hcz10_0 : w8.cell? ⟨gb101, 0, none⟩ = some (.int .i64 a0_0) := (blk_cell BK101.out 0).trans rfl; have hcz10_1 : w8.cell? ⟨gb101, 1, none⟩ = some (.int .i64 a0_1) := (blk_cell BK101.out 1).trans rfl; have hcz10_2 : w8.cell? ⟨gb101, 2, none⟩ = some (.slice A0_2 l0_2.length c0_2) := (blk_cell BK101.out 2).trans rfl; have hfz10_0 := blk_frozen BK101.out 0; have hfz10_1 := blk_frozen BK101.out 1; have hfz10_2 := blk_frozen BK101.out 2; have hcz11_0 : w8.cell? ⟨gb102, 0, none⟩ = some (.int .i64 a1_0) := (blk_cell BK102.out 0).trans rfl; have hcz11_1 : w8.cell? ⟨gb102, 1, none⟩ = some (.int .i64 a1_1) := (blk_cell BK102.out 1).trans rfl; have hcz11_2 : w8.cell? ⟨gb102, 2, none⟩ = some (.slice A1_2 l1_2.length c1_2) := (blk_cell BK102.out 2).trans rfl; have hfz11_0 := blk_frozen BK102.out 0; have hfz11_1 := blk_frozen BK102.out 1; have hfz11_2 := blk_frozen BK102.out 2) | ((with_reducible refine gate_callee (f := 33) rfl ?_); refine goesL_ (some 19) rfl rfl Try.func33 (by kernel_rfl) rfl #[.slice A0_2 l0_2.length c0_2, .slice A1_2 l1_2.length c1_2] rfl (by (try simp only [List.map_toArray, List.map_cons, List.map_nil]); first | done | rfl | (simp only [List.length_drop, List.length_take]; rfl)) ?_; (with_reducible refine (hF_ _ _ l0_2 _ _ l1_2 true _ ?side1 ?side2 ?side3 ?side4 A5.out).mono ?_); (case side1 => repeat (first | exact (Kd.C_below HR0_2.out HB.out) | (with_reducible refine Kd.C_alloc ?_ _) | (with_reducible refine Kd.C_drewN ?_ _) | (with_reducible refine Kd.C_drew ?_))); (case side2 => exact HC0_2.out); (case side3 => repeat (first | exact (Kd.C_below HR1_2.out HB.out) | (with_reducible refine Kd.C_alloc ?_ _) | (with_reducible refine Kd.C_drewN ?_ _) | (with_reducible refine Kd.C_drew ?_))); (case side4 => exact HC1_2.out); rintro e w12 ⟨rfl, hb⟩; refine ⟨_, rfl, ?_⟩; have n0_ := Aside0.mk (blk_below (g := gb101) (o := .cells #[.int .i64 a0_0, .int .i64 a0_1, .slice A0_2 l0_2.length c0_2] 31 (0, 0)) (by (with_reducible repeat (first | refine blk_drewN ?_ _ | refine blk_drew ?_ | refine blk_alloc ?_ _)); exact BK101.out) hb); have n1_ := Aside0.mk (blk_below (g := gb102) (o := .cells #[.int .i64 a1_0, .int .i64 a1_1, .slice A1_2 l1_2.length c1_2] 31 (0, 0)) (by (with_reducible repeat (first | refine blk_drewN ?_ _ | refine blk_drew ?_ | refine blk_alloc ?_ _)); exact BK102.out) hb); have n2_ := Aside0.mk (below_step (by repeat (first | (with_reducible first | exact HB.out | apply below_alloc | apply pw_below_drewN | apply below_drew1 | refine below_set ?_ GE101.out | refine below_set ?_ GE102.out) | exact HB.out)) hb); clear BK101; clear BK102; clear HB; have BK101 := n0_; have BK102 := n1_; have HB := n2_; clear n0_ n1_ n2_; (try clear hb); (try clear hb2); (try clear hk); (try clear hi)))
    go_ret
    exact ⟨by first | rfl | (simp [errW_none, errW_some] <;> rfl) | (simp [*, errW_none, errW_some] <;> rfl), by repeat (first | (with_reducible first | exact HB.out | apply below_alloc | apply pw_below_drewN | apply below_drew1 | refine below_set ?_ GE101.out | refine below_set ?_ GE102.out) | exact HB.out)⟩
   ·replace c6 := Bool.eq_false_iff.mpr c6
    subst c6
    have H1 : (some false) = some r := by rw [if_neg (show ¬ (false = true) by decide)] at H; exact H
    clear H
    have H := H1
    clear H1
    obtain rfl := Option.some.inj H
    go_enter Try.func16, Try.ntmps16
    go_wp2_with (first | ((with_reducible refine gate_dst (N := 2) rfl ?_); refine box_event ?hg (N := 2) ?hd (cs := #[.int .i64 a0_0, .int .i64 a0_1, .slice A0_2 l0_2.length c0_2]) (t := 31) ?hr ?_; (case hd => rfl); (case hg => rfl); (case hr => first | (go_simp; done) | (go_simp; rfl)); intro gb101 hg w13 hbox hb; have n0_ := Aside0.mk (below_step (by repeat (first | (with_reducible first | exact HB.out | apply below_alloc | apply pw_below_drewN | apply below_drew1) | exact HB.out)) hb); have n1_ := Aside0.mk (hbox); have n2_ := Aside0.mk ((by rw [hg]; exact (below_size (by repeat (first | (with_reducible first | exact HB.out | apply below_alloc | apply pw_below_drewN | apply below_drew1) | exact HB.out))) : w.heap.size ≤ gb101)); have n3_ := Aside0.mk ((by rw [hg]; exact (below_size (by repeat (first | (with_reducible first | exact HB.out | apply below_alloc | apply pw_below_drewN | apply below_drew1) | exact HB.out))) : w.heap.size ≤ gb101)); clear HB; have HB := n0_; have BK101 := n1_; have GW101 := n2_; have GE101 := n3_; clear n0_ n1_ n2_ n3_; clear hb hbox hg) | ((with_reducible refine gate_dst (N := 3) rfl ?_); refine box_event ?hg (N := 3) ?hd (cs := #[.int .i64 a1_0, .int .i64 a1_1, .slice A1_2 l1_2.length c1_2]) (t := 31) ?hr ?_; (case hd => rfl); (case hg => rfl); (case hr => first | (go_simp; done) | (go_simp; rfl)); intro gb102 hg w14 hbox hb; have n0_ := Aside0.mk (blk_below (g := gb101) (o := .cells #[.int .i64 a0_0, .int .i64 a0_1, .slice A0_2 l0_2.length c0_2] 31 (0, 0)) (by (with_reducible repeat (first | refine blk_drewN ?_ _ | refine blk_drew ?_ | refine blk_alloc ?_ _)); exact BK101.out) hb); have n1_ := Aside0.mk (below_step (by repeat (first | (with_reducible first | exact HB.out | apply below_alloc | apply pw_below_drewN | apply below_drew1 | refine below_set ?_ GE101.out) | exact HB.out)) hb); have n2_ := Aside0.mk (hbox); have n3_ := Aside0.mk ((by rw [hg]; exact (below_size (by repeat (first | (with_reducible first | exact HB.out | apply below_alloc | apply pw_below_drewN | apply below_drew1 | refine below_set ?_ GE101.out) | exact HB.out))) : w.heap.size ≤ gb102)); have n4_ := Aside0.mk ((by rw [hg]; exact (below_size (by repeat (first | (with_reducible first | exact HB.out | apply below_alloc | apply pw_below_drewN | apply below_drew1 | refine below_set ?_ GE101.out) | exact HB.out))) : w.heap.size ≤ gb102)); have n5_ := Aside0.mk ((by rw [hg]; exact Nat.ne_of_lt (blk_lt (g := gb101) (o := .cells #[.int .i64 a0_0, .int .i64 a0_1, .slice A0_2 l0_2.length c0_2] 31 (0, 0)) (by (with_reducible repeat (first | refine blk_drewN ?_ _ | refine blk_drew ?_ | refine blk_alloc ?_ _)); exact BK101.out)) : gb101 ≠ gb102)); have n6_ := Aside0.mk ((by rw [hg]; exact Nat.ne_of_gt (blk_lt (g := gb101) (o := .cells #[.int .i64 a0_0, .int .i64 a0_1, .slice A0_2 l0_2.length c0_2] 31 (0, 0)) (by (with_reducible repeat (first | refine blk_drewN ?_ _ | refine blk_drew ?_ | refine blk_alloc ?_ _)); exact BK101.out)) : gb102 ≠ gb101)); clear BK101; clear HB; have BK101 := n0_; have HB := n1_; have BK102 := n2_; have GW102 := n3_; have GE102 := n4_; have NB101_102 := n5_; have NB102_101 := n6_; clear n0_ n1_ n2_ n3_ n4_ n5_ n6_; clear hb hbox hg; have hnb15 := NB101_102.out; have hnc15 := NB102_101.out; have hcz16_0 : w14.cell? ⟨gb101, 0, none⟩ = some (.int .i64 a0_0) := (blk_cell BK101.out 0).trans rfl; have hcz16_1 : w14.cell? ⟨gb101, 1, none⟩ = some (.int .i64 a0_1) := (blk_cell BK101.out 1).trans rfl; have hcz16_2 : w14.cell? ⟨gb101, 2, none⟩ = some (.slice A0_2 l0_2.length c0_2) := (blk_cell BK101.out 2).trans rfl; have hfz16_0 := blk_frozen BK101.out 0; have hfz16_1 := blk_frozen BK101.out 1; have hfz16_2 := blk_frozen BK101.out 2; have hcz17_0 : w14.cell? ⟨gb102, 0, none⟩ = some (.int .i64 a1_0) := (blk_cell BK102.out 0).trans rfl; have hcz17_1 : w14.cell? ⟨gb102, 1, none⟩ = some (.int .i64 a1_1) := (blk_cell BK102.out 1).trans rfl; have hcz17_2 : w14.cell? ⟨gb102, 2, none⟩ = some (.slice A1_2 l1_2.length c1_2) := (blk_cell BK102.out 2).trans rfl; have hfz17_0 := blk_frozen BK102.out 0; have hfz17_1 := blk_frozen BK102.out 1; have hfz17_2 := blk_frozen BK102.out 2) | ((with_reducible refine gate_callee (f := 33) rfl ?_); refine goesL_ (some 19) rfl rfl Try.func33 (by kernel_rfl) rfl #[.slice A0_2 l0_2.length c0_2, .slice A1_2 l1_2.length c1_2] rfl (by (try simp only [List.map_toArray, List.map_cons, List.map_nil]); first | done | rfl | (simp only [List.length_drop, List.length_take]; rfl)) ?_; (with_reducible refine (hF_ _ _ l0_2 _ _ l1_2 false _ ?side1 ?side2 ?side3 ?side4 A5.out).mono ?_); (case side1 => repeat (first | exact (Kd.C_below HR0_2.out HB.out) | (with_reducible refine Kd.C_alloc ?_ _) | (with_reducible refine Kd.C_drewN ?_ _) | (with_reducible refine Kd.C_drew ?_))); (case side2 => exact HC0_2.out); (case side3 => repeat (first | exact (Kd.C_below HR1_2.out HB.out) | (with_reducible refine Kd.C_alloc ?_ _) | (with_reducible refine Kd.C_drewN ?_ _) | (with_reducible refine Kd.C_drew ?_))); (case side4 => exact HC1_2.out); rintro e w18 ⟨rfl, hb⟩; refine ⟨_, rfl, ?_⟩; have n0_ := Aside0.mk (blk_below (g := gb101) (o := .cells #[.int .i64 a0_0, .int .i64 a0_1, .slice A0_2 l0_2.length c0_2] 31 (0, 0)) (by (with_reducible repeat (first | refine blk_drewN ?_ _ | refine blk_drew ?_ | refine blk_alloc ?_ _)); exact BK101.out) hb); have n1_ := Aside0.mk (blk_below (g := gb102) (o := .cells #[.int .i64 a1_0, .int .i64 a1_1, .slice A1_2 l1_2.length c1_2] 31 (0, 0)) (by (with_reducible repeat (first | refine blk_drewN ?_ _ | refine blk_drew ?_ | refine blk_alloc ?_ _)); exact BK102.out) hb); have n2_ := Aside0.mk (below_step (by repeat (first | (with_reducible first | exact HB.out | apply below_alloc | apply pw_below_drewN | apply below_drew1 | refine below_set ?_ GE101.out | refine below_set ?_ GE102.out) | exact HB.out)) hb); clear BK101; clear BK102; clear HB; have BK101 := n0_; have BK102 := n1_; have HB := n2_; clear n0_ n1_ n2_; (try clear hb); (try clear hb2); (try clear hk); (try clear hi)))
    go_ret
    exact ⟨by first | rfl | (simp [errW_none, errW_some] <;> rfl) | (simp [*, errW_none, errW_some] <;> rfl), by repeat (first | (with_reducible first | exact HB.out | apply below_alloc | apply pw_below_drewN | apply below_drew1 | refine below_set ?_ GE101.out | refine below_set ?_ GE102.out) | exact HB.out)⟩
  ·rw [if_neg c4] at H
   have c4b0 : (a0_1 == a1_1) = false := beq_eq_false_iff_ne.mpr c4
   have c4b1 : (a0_1 != a1_1) = true := bne_iff_ne.mpr c4
   obtain rfl := Option.some.inj H
   go_enter Try.func16, Try.ntmps16
   go_wp2_with (first | ((with_reducible refine gate_dst (N := 2) rfl ?_); refine box_event ?hg (N := 2) ?hd (cs := #[.int .i64 a0_0, .int .i64 a0_1, .slice A0_2 l0_2.length c0_2]) (t := 31) ?hr ?_; (case hd => rfl); (case hg => rfl); (case hr => first | (go_simp; done) | (go_simp; rfl)); intro gb101 hg w19 hbox hb; have n0_ := Aside0.mk (below_step (by repeat (first | (with_reducible first | exact HB.out | apply below_alloc | apply pw_below_drewN | apply below_drew1) | exact HB.out)) hb); have n1_ := Aside0.mk (hbox); have n2_ := Aside0.mk ((by rw [hg]; exact (below_size (by repeat (first | (with_reducible first | exact HB.out | apply below_alloc | apply pw_below_drewN | apply below_drew1) | exact HB.out))) : w.heap.size ≤ gb101)); have n3_ := Aside0.mk ((by rw [hg]; exact (below_size (by repeat (first | (with_reducible first | exact HB.out | apply below_alloc | apply pw_below_drewN | apply below_drew1) | exact HB.out))) : w.heap.size ≤ gb101)); clear HB; have HB := n0_; have BK101 := n1_; have GW101 := n2_; have GE101 := n3_; clear n0_ n1_ n2_ n3_; clear hb hbox hg) | ((with_reducible refine gate_dst (N := 3) rfl ?_); refine box_event ?hg (N := 3) ?hd (cs := #[.int .i64 a1_0, .int .i64 a1_1, .slice A1_2 l1_2.length c1_2]) (t := 31) ?hr ?_; (case hd => rfl); (case hg => rfl); (case hr => first | (go_simp; done) | (go_simp; rfl)); intro gb102 hg w20 hbox hb; have n0_ := Aside0.mk (blk_below (g := gb101) (o := .cells #[.int .i64 a0_0, .int .i64 a0_1, .slice A0_2 l0_2.length c0_2] 31 (0, 0)) (by (with_reducible repeat (first | refine blk_drewN ?_ _ | refine blk_drew ?_ | refine blk_alloc ?_ _)); exact BK101.out) hb); have n1_ := Aside0.mk (below_step (by repeat (first | (with_reducible first | exact HB.out | apply below_alloc | apply pw_below_drewN | apply below_drew1 | refine below_set ?_ GE101.out) | exact HB.out)) hb); have n2_ := Aside0.mk (hbox); have n3_ := Aside0.mk ((by rw [hg]; exact (below_size (by repeat (first | (with_reducible first | exact HB.out | apply below_alloc | apply pw_below_drewN | apply below_drew1 | refine below_set ?_ GE101.out) | exact HB.out))) : w.heap.size ≤ gb102)); have n4_ := Aside0.mk ((by rw [hg]; exact (below_size (by repeat (first | (with_reducible first | exact HB.out | apply below_alloc | apply pw_below_drewN | apply below_drew1 | refine below_set ?_ GE101.out) | exact HB.out))) : w.heap.size ≤ gb102)); have n5_ := Aside0.mk ((by rw [hg]; exact Nat.ne_of_lt (blk_lt (g := gb101) (o := .cells #[.int .i64 a0_0, .int .i64 a0_1, .slice A0_2 l0_2.length c0_2] 31 (0, 0)) (by (with_reducible repeat (first | refine blk_drewN ?_ _ | refine blk_drew ?_ | refine blk_alloc ?_ _)); exact BK101.out)) : gb101 ≠ gb102)); have n6_ := Aside0.mk ((by rw [hg]; exact Nat.ne_of_gt (blk_lt (g := gb101) (o := .cells #[.int .i64 a0_0, .int .i64 a0_1, .slice A0_2 l0_2.length c0_2] 31 (0, 0)) (by (with_reducible repeat (first | refine blk_drewN ?_ _ | refine blk_drew ?_ | refine blk_alloc ?_ _)); exact BK101.out)) : gb102 ≠ gb101)); clear BK101; clear HB; have BK101 := n0_; have HB := n1_; have BK102 := n2_; have GW102 := n3_; have GE102 := n4_; have NB101_102 := n5_; have NB102_101 := n6_; clear n0_ n1_ n2_ n3_ n4_ n5_ n6_; clear hb hbox hg; have hnb21 := NB101_102.out; have hnc21 := NB102_101.out; have hcz22_0 : w20.cell? ⟨gb101, 0, none⟩ = some (.int .i64 a0_0) := (blk_cell BK101.out 0).trans rfl; have hcz22_1 : w20.cell? ⟨gb101, 1, none⟩ = some (.int .i64 a0_1) := (blk_cell BK101.out 1).trans rfl; have hcz22_2 : w20.cell? ⟨gb101, 2, none⟩ = some (.slice A0_2 l0_2.length c0_2) := (blk_cell BK101.out 2).trans rfl; have hfz22_0 := blk_frozen BK101.out 0; have hfz22_1 := blk_frozen BK101.out 1; have hfz22_2 := blk_frozen BK101.out 2; have hcz23_0 : w20.cell? ⟨gb102, 0, none⟩ = some (.int .i64 a1_0) := (blk_cell BK102.out 0).trans rfl; have hcz23_1 : w20.cell? ⟨gb102, 1, none⟩ = some (.int .i64 a1_1) := (blk_cell BK102.out 1).trans rfl; have hcz23_2 : w20.cell? ⟨gb102, 2, none⟩ = some (.slice A1_2 l1_2.length c1_2) := (blk_cell BK102.out 2).trans rfl; have hfz23_0 := blk_frozen BK102.out 0; have hfz23_1 := blk_frozen BK102.out 1; have hfz23_2 := blk_frozen BK102.out 2))
   go_ret
   exact ⟨by first | rfl | (simp [errW_none, errW_some] <;> rfl) | (simp [*, errW_none, errW_some] <;> rfl), by repeat (first | (with_reducible first | exact HB.out | apply below_alloc | apply pw_below_drewN | apply below_drew1 | refine below_set ?_ GE101.out | refine below_set ?_ GE102.out) | exact HB.out)⟩
 ·rw [if_neg c3] at H
  have c3b0 : (a0_0 == a1_0) = false := beq_eq_false_iff_ne.mpr c3
  have c3b1 : (a0_0 != a1_0) = true := bne_iff_ne.mpr c3
  obtain rfl := Option.some.inj H
  go_enter Try.func16, Try.ntmps16
  go_wp2_with (first | ((with_reducible refine gate_dst (N := 2) rfl ?_); refine box_event ?hg (N := 2) ?hd (cs := #[.int .i64 a0_0, .int .i64 a0_1, .slice A0_2 l0_2.length c0_2]) (t := 31) ?hr ?_; (case hd => rfl); (case hg => rfl); (case hr => first | (go_simp; done) | (go_simp; rfl)); intro gb101 hg w24 hbox hb; have n0_ := Aside0.mk (below_step (by repeat (first | (with_reducible first | exact HB.out | apply below_alloc | apply pw_below_drewN | apply below_drew1) | exact HB.out)) hb); have n1_ := Aside0.mk (hbox); have n2_ := Aside0.mk ((by rw [hg]; exact (below_size (by repeat (first | (with_reducible first | exact HB.out | apply below_alloc | apply pw_below_drewN | apply below_drew1) | exact HB.out))) : w.heap.size ≤ gb101)); have n3_ := Aside0.mk ((by rw [hg]; exact (below_size (by repeat (first | (with_reducible first | exact HB.out | apply below_alloc | apply pw_below_drewN | apply below_drew1) | exact HB.out))) : w.heap.size ≤ gb101)); clear HB; have HB := n0_; have BK101 := n1_; have GW101 := n2_; have GE101 := n3_; clear n0_ n1_ n2_ n3_; clear hb hbox hg) | ((with_reducible refine gate_dst (N := 3) rfl ?_); refine box_event ?hg (N := 3) ?hd (cs := #[.int .i64 a1_0, .int .i64 a1_1, .slice A1_2 l1_2.length c1_2]) (t := 31) ?hr ?_; (case hd => rfl); (case hg => rfl); (case hr => first | (go_simp; done) | (go_simp; rfl)); intro gb102 hg w25 hbox hb; have n0_ := Aside0.mk (blk_below (g := gb101) (o := .cells #[.int .i64 a0_0, .int .i64 a0_1, .slice A0_2 l0_2.length c0_2] 31 (0, 0)) (by (with_reducible repeat (first | refine blk_drewN ?_ _ | refine blk_drew ?_ | refine blk_alloc ?_ _)); exact BK101.out) hb); have n1_ := Aside0.mk (below_step (by repeat (first | (with_reducible first | exact HB.out | apply below_alloc | apply pw_below_drewN | apply below_drew1 | refine below_set ?_ GE101.out) | exact HB.out)) hb); have n2_ := Aside0.mk (hbox); have n3_ := Aside0.mk ((by rw [hg]; exact (below_size (by repeat (first | (with_reducible first | exact HB.out | apply below_alloc | apply pw_below_drewN | apply below_drew1 | refine below_set ?_ GE101.out) | exact HB.out))) : w.heap.size ≤ gb102)); have n4_ := Aside0.mk ((by rw [hg]; exact (below_size (by repeat (first | (with_reducible first | exact HB.out | apply below_alloc | apply pw_below_drewN | apply below_drew1 | refine below_set ?_ GE101.out) | exact HB.out))) : w.heap.size ≤ gb102)); have n5_ := Aside0.mk ((by rw [hg]; exact Nat.ne_of_lt (blk_lt (g := gb101) (o := .cells #[.int .i64 a0_0, .int .i64 a0_1, .slice A0_2 l0_2.length c0_2] 31 (0, 0)) (by (with_reducible repeat (first | refine blk_drewN ?_ _ | refine blk_drew ?_ | refine blk_alloc ?_ _)); exact BK101.out)) : gb101 ≠ gb102)); have n6_ := Aside0.mk ((by rw [hg]; exact Nat.ne_of_gt (blk_lt (g := gb101) (o := .cells #[.int .i64 a0_0, .int .i64 a0_1, .slice A0_2 l0_2.length c0_2] 31 (0, 0)) (by (with_reducible repeat (first | refine blk_drewN ?_ _ | refine blk_drew ?_ | refine blk_alloc ?_ _)); exact BK101.out)) : gb102 ≠ gb101)); clear BK101; clear HB; have BK101 := n0_; have HB := n1_; have BK102 := n2_; have GW102 := n3_; have GE102 := n4_; have NB101_102 := n5_; have NB102_101 := n6_; clear n0_ n1_ n2_ n3_ n4_ n5_ n6_; clear hb hbox hg; have hnb26 := NB101_102.out; have hnc26 := NB102_101.out; have hcz27_0 : w25.cell? ⟨gb101, 0, none⟩ = some (.int .i64 a0_0) := (blk_cell BK101.out 0).trans rfl; have hcz27_1 : w25.cell? ⟨gb101, 1, none⟩ = some (.int .i64 a0_1) := (blk_cell BK101.out 1).trans rfl; have hcz27_2 : w25.cell? ⟨gb101, 2, none⟩ = some (.slice A0_2 l0_2.length c0_2) := (blk_cell BK101.out 2).trans rfl; have hfz27_0 := blk_frozen BK101.out 0; have hfz27_1 := blk_frozen BK101.out 1; have hfz27_2 := blk_frozen BK101.out 2; have hcz28_0 : w25.cell? ⟨gb102, 0, none⟩ = some (.int .i64 a1_0) := (blk_cell BK102.out 0).trans rfl; have hcz28_1 : w25.cell? ⟨gb102, 1, none⟩ = some (.int .i64 a1_1) := (blk_cell BK102.out 1).trans rfl; have hcz28_2 : w25.cell? ⟨gb102, 2, none⟩ = some (.slice A1_2 l1_2.length c1_2) := (blk_cell BK102.out 2).trans rfl; have hfz28_0 := blk_frozen BK102.out 0; have hfz28_1 := blk_frozen BK102.out 1; have hfz28_2 := blk_frozen BK102.out 2))
  go_ret
  exact ⟨by first | rfl | (simp [errW_none, errW_some] <;> rfl) | (simp [*, errW_none, errW_some] <;> rfl), by repeat (first | (with_reducible first | exact HB.out | apply below_alloc | apply pw_below_drewN | apply below_drew1 | refine below_set ?_ GE101.out | refine below_set ?_ GE102.out) | exact HB.out)⟩
set_option maxHeartbeats 8000000 in
set_option maxRecDepth 100000 in
theorem laws_eqExS.calls (k : Nat) : ∀ (A0 : Option Addr) (c0 : Nat) (l0 : List (S31)) (A1 : Option Addr) (c1 : Nat) (l1 : List (S31)) (r : Bool) (w : World) (hr0 : Kd.C k31 w A0 l0.length l0) (hc0 : l0.length ≤ c0) (hr1 : Kd.C k31 w A1 l1.length l1) (hc1 : l1.length ≤ c1) (h : laws_eqExS.f k l0 l1 = some r),
  Calls Try.prog 33 #[.slice A0 l0.length c0, .slice A1 l1.length c1] w fun e w' => e = .returned (.bool r) ∧ Below w.heap.size w w' := by
 induction k using Nat.strongRecOn with
 | _ k ih =>
 intro A0 c0 l0 A1 c1 l1 r w hr0 hc0 hr1 hc1 h
 cases k with
 | zero => exact absurd h (by simp [laws_eqExS.f])
 | succ k =>
 simp only [laws_eqExS.f] at h
 have hu31 := Try.underlying31
 have HR0 := Aside0.mk hr0
 have HC0 := Aside0.mk hc0
 clear hr0 hc0
 have HR1 := Aside0.mk hr1
 have HC1 := Aside0.mk hc1
 clear hr1 hc1
 have HB := Aside0.mk (Below.refl w.heap.size w)
 have H : (if (l0.length : Int) = (l1.length : Int) then (laws_eqExS.l0 k l0 l1 0) else (some false)) = some r := h
 clear h
 by_cases c3 : (l0.length : Int) = (l1.length : Int)
 ·rw [if_pos c3] at H
  have c3b0 : ((l0.length : Int) == (l1.length : Int)) = true := beq_iff_eq.mpr c3
  have c3b1 : ((l0.length : Int) != (l1.length : Int)) = false := bne_eq_false_iff_eq.mpr c3
  have c3b2 : (l0.length == l1.length) = true := by first | simpa using c3 | (simp at c3 ⊢; omega)
  clear c3
  have H' := Aside0.mk H
  clear H
  go_enter Try.func33, Try.ntmps33
  go_wp2
  go_loopg [5] k (fun kq v5 w' => ∃ (x5_1 : Int), v5 = .int .i64 x5_1 ∧ Aside0 (laws_eqExS.l0 kq l0 l1 x5_1 = some r) ∧ Aside0 (kq ≤ k) ∧ Aside0 (Below w.heap.size w w'))
  case atStart => exact ⟨(0), (by first | rfl | (simp; done) | (simp [*]; done)), H', ⟨Nat.le_refl _⟩, ⟨by repeat (first | (with_reducible first | exact HB.out | apply below_alloc | apply pw_below_drewN | apply below_drew1) | exact HB.out)⟩⟩
  case round =>
   clear H'
   try clear c1
   try clear p2
   try clear c3
   try clear c3b0
   try clear c3b1
   try clear c3b2
   obtain ⟨x5_1, rfl, HA, HK1, HB⟩ := hrel
   cases gk with
   | zero => exact absurd HA.out (by simp [laws_eqExS.l0])
   | succ k1 =>
    have H := HA.out
    clear HA
    simp only [laws_eqExS.l0] at H
    by_cases c4 : x5_1 < (l0.length : Int)
    ·rw [if_pos c4] at H
     have c4b0 : decide (x5_1 < (l0.length : Int)) = true := decide_eq_true c4
     clear c4
     by_cases c5 : 0 ≤ x5_1
     ·rw [if_pos c5] at H
      have c5b0 : decide (0 ≤ x5_1) = true := decide_eq_true c5
      clear c5
      by_cases c6 : x5_1 < (l1.length : Int)
      ·rw [if_pos c6] at H
       have c6b0 : decide (x5_1 < (l1.length : Int)) = true := decide_eq_true c6
       clear c6
       replace H := Option.bind_eq_some_iff.mp H
       obtain ⟨t106, A70, H⟩ := H
       replace H : (if t106 = true then (laws_eqExS.l0 k1 l0 l1 (wrap64 (x5_1 + 1))) else (some false)) = some r := H
       have A7 := Aside0.mk A70
       clear A70
       by_cases c8 : t106 = true
       ·subst c8
        have H1 : (laws_eqExS.l0 k1 l0 l1 (wrap64 (x5_1 + 1))) = some r := by rw [if_pos rfl] at H; exact H
        clear H
        have H := H1
        clear H1
        have H' := Aside0.mk H
        clear H
        try go_wp2
        have n0_ := Aside0.mk (below_drew1 HB.out)
        clear HB
        have HB := n0_
        clear n0_
        have p104 : 0 ≤ (x5_1 : Int) := of_decide_eq_true (by first | (with_reducible assumption) | assumption)
        have q104 : x5_1 < (l0.length : Int) := of_decide_eq_true (by first | (with_reducible assumption) | assumption)
        obtain ⟨ad104, A104_2, c104_2, e104, hx104_0, hx104_1, hx104_2, hl104_2, hi104_2⟩ := at_T31 HR0.out x5_1 p104 q104
        have hw104_2 := hx104_2
        have hw104_1 := hx104_1
        have hw104_0 := hx104_0
        cases e104
        replace hx104_0 := (HB.out.cell (World.block_lt_of_cell? w _ hx104_0)).trans hx104_0
        replace hx104_1 := (HB.out.cell (World.block_lt_of_cell? w _ hx104_1)).trans hx104_1
        replace hx104_2 := (HB.out.cell (World.block_lt_of_cell? w _ hx104_2)).trans hx104_2
        have HR104_2 := Aside0.mk hi104_2
        have HC104_2 := Aside0.mk hl104_2
        clear hi104_2 hl104_2
        replace p104 := eq_true p104
        replace q104 := eq_true q104
        have p105 : 0 ≤ (x5_1 : Int) := of_decide_eq_true (by first | (with_reducible assumption) | assumption)
        have q105 : x5_1 < (l1.length : Int) := of_decide_eq_true (by first | (with_reducible assumption) | assumption)
        obtain ⟨ad105, A105_2, c105_2, e105, hx105_0, hx105_1, hx105_2, hl105_2, hi105_2⟩ := at_T31 HR1.out x5_1 p105 q105
        have hw105_2 := hx105_2
        have hw105_1 := hx105_1
        have hw105_0 := hx105_0
        cases e105
        replace hx105_0 := (HB.out.cell (World.block_lt_of_cell? w _ hx105_0)).trans hx105_0
        replace hx105_1 := (HB.out.cell (World.block_lt_of_cell? w _ hx105_1)).trans hx105_1
        replace hx105_2 := (HB.out.cell (World.block_lt_of_cell? w _ hx105_2)).trans hx105_2
        have HR105_2 := Aside0.mk hi105_2
        have HC105_2 := Aside0.mk hl105_2
        clear hi105_2 hl105_2
        replace p105 := eq_true p105
        replace q105 := eq_true q105
        refine start_ (n := 10) (S := fun w' => w'.cell? (ad104.add ((x5_1).toNat * 3)) = some (.int .i64 ((rd_T31 l0 x5_1).f0)) ∧ w'.cell? ⟨(ad104.add ((x5_1).toNat * 3)).block, (ad104.add ((x5_1).toNat * 3)).off + 1, none⟩ = some (.int .i64 ((rd_T31 l0 x5_1).f1)) ∧ w'.cell? ⟨(ad104.add ((x5_1).toNat * 3)).block, (ad104.add ((x5_1).toNat * 3)).off + 2, none⟩ = some (.slice A104_2 ((rd_T31 l0 x5_1).f2).length c104_2) ∧ w'.cell? (ad105.add ((x5_1).toNat * 3)) = some (.int .i64 ((rd_T31 l1 x5_1).f0)) ∧ w'.cell? ⟨(ad105.add ((x5_1).toNat * 3)).block, (ad105.add ((x5_1).toNat * 3)).off + 1, none⟩ = some (.int .i64 ((rd_T31 l1 x5_1).f1)) ∧ w'.cell? ⟨(ad105.add ((x5_1).toNat * 3)).block, (ad105.add ((x5_1).toNat * 3)).off + 2, none⟩ = some (.slice A105_2 ((rd_T31 l1 x5_1).f2).length c105_2)) (ds := []) #[false, false, false, false, false, false, false, false, false, false] (by kernel_rfl) rfl rfl ⟨((HB.out.cell (World.block_lt_of_cell? w _ hw104_0)).trans hw104_0), ((HB.out.cell (World.block_lt_of_cell? w _ hw104_1)).trans hw104_1), ((HB.out.cell (World.block_lt_of_cell? w _ hw104_2)).trans hw104_2), ((HB.out.cell (World.block_lt_of_cell? w _ hw105_0)).trans hw105_0), ((HB.out.cell (World.block_lt_of_cell? w _ hw105_1)).trans hw105_1), ((HB.out.cell (World.block_lt_of_cell? w _ hw105_2)).trans hw105_2)⟩ (fun hHeld => ?_); refine with_tabW laws_eqExS.tab6 laws_eqExS.bits6 (fun HT_ HW_ => ?_)
        generalize wr.drew = w9 at HB HR104_2 HR105_2 hx104_0 hx104_1 hx104_2 hx105_0 hx105_1 hx105_2 hHeld ⊢
        refine pure_ (i := 0) (N := some 17) (v := ?_) (a' := ?_) #[true, false, false, false, false, false, false, false, false, false] rfl rfl (any_of HT_.out (by kernel_rfl)) (fun _ _ _ h => h) (Or.inl ⟨by rfl, ?_⟩) ?_ ?_
        rotate_left
        ·intro w'
         go_simp
         with_reducible rfl
        rotate_left
        ·simp only [Act.put, List.setIfInBounds_toArray, List.set_cons_zero, List.set_cons_succ, i64_w, i32_w]
         rfl
        refine pure_ (i := 1) (N := some 18) (v := ?_) (a' := ?_) #[true, true, false, false, false, false, false, false, false, false] rfl rfl (any_of HT_.out (by kernel_rfl)) (fun _ _ _ h => h) (Or.inl ⟨by rfl, ?_⟩) ?_ ?_
        rotate_left
        ·intro w'
         go_simp
         with_reducible rfl
        rotate_left
        ·simp only [Act.put, List.setIfInBounds_toArray, List.set_cons_zero, List.set_cons_succ, i64_w, i32_w]
         rfl
        refine pure_ (i := 2) (N := some 19) (v := ?_) (a' := ?_) #[true, true, true, false, false, false, false, false, false, false] rfl rfl (any_of HT_.out (by kernel_rfl)) (fun _ _ _ h => h) (Or.inl ⟨by rfl, ?_⟩) ?_ ?_
        rotate_left
        ·intro w'
         go_simp
         with_reducible rfl
        rotate_left
        ·simp only [Act.put, List.setIfInBounds_toArray, List.set_cons_zero, List.set_cons_succ, i64_w, i32_w]
         rfl
        refine pure_ (i := 4) (N := some 21) (v := ?_) (a' := ?_) #[true, true, true, false, true, false, false, false, false, false] rfl rfl (any_of HT_.out (by kernel_rfl)) (fun _ _ _ h => h) (Or.inl ⟨by rfl, ?_⟩) ?_ ?_
        rotate_left
        ·intro w'
         go_simp
         with_reducible rfl
        rotate_left
        ·simp only [Act.put, List.setIfInBounds_toArray, List.set_cons_zero, List.set_cons_succ, i64_w, i32_w]
         rfl
        refine pure_ (i := 5) (N := some 22) (v := ?_) (a' := ?_) #[true, true, true, false, true, true, false, false, false, false] rfl rfl (any_of HT_.out (by kernel_rfl)) (fun _ _ _ h => h) (Or.inl ⟨by rfl, ?_⟩) ?_ ?_
        rotate_left
        ·intro w'
         go_simp
         with_reducible rfl
        rotate_left
        ·simp only [Act.put, List.setIfInBounds_toArray, List.set_cons_zero, List.set_cons_succ, i64_w, i32_w]
         rfl
        refine pure_ (i := 6) (N := some 23) (v := ?_) (a' := ?_) #[true, true, true, false, true, true, true, false, false, false] rfl rfl (any_of HT_.out (by kernel_rfl)) (fun _ _ _ h => h) (Or.inl ⟨by rfl, ?_⟩) ?_ ?_
        rotate_left
        ·intro w'
         go_simp
         with_reducible rfl
        rotate_left
        ·simp only [Act.put, List.setIfInBounds_toArray, List.set_cons_zero, List.set_cons_succ, i64_w, i32_w]
         rfl
        refine take_ (i := 3) (N := some 20) (v := ?_) (a' := ?_) #[true, true, true, true, true, true, true, false, false, false] rfl rfl (take_ofW HT_.out HW_.out (by kernel_rfl)) (fun _ _ _ h => h) (Or.inl ⟨by rfl, ?_⟩) hHeld ?_ ?_
        rotate_left
        ·rintro w' ⟨s0, s1, s2, s3, s4, s5⟩
         go_simp
         with_reducible rfl
        rotate_left
        ·simp only [Act.put, List.setIfInBounds_toArray, List.set_cons_zero, List.set_cons_succ, i64_w, i32_w]
         rfl
        refine take_ (i := 7) (N := some 24) (v := ?_) (a' := ?_) #[true, true, true, true, true, true, true, true, false, false] rfl rfl (take_ofW HT_.out HW_.out (by kernel_rfl)) (fun _ _ _ h => h) (Or.inl ⟨by rfl, ?_⟩) hHeld ?_ ?_
        rotate_left
        ·rintro w' ⟨s0, s1, s2, s3, s4, s5⟩
         go_simp
         with_reducible rfl
        rotate_left
        ·simp only [Act.put, List.setIfInBounds_toArray, List.set_cons_zero, List.set_cons_succ, i64_w, i32_w]
         rfl
        refine one_ (i := 8) (N := some 25) #[true, true, true, true, true, true, true, true, true, false] rfl rfl (one_of HT_.out (by kernel_rfl)) (by decide) (fun K hK => ?_)
        refine goes_ Try.func16 (by kernel_rfl) rfl #[.agg #[.int .i64 ((rd_T31 l0 x5_1).f0), .int .i64 ((rd_T31 l0 x5_1).f1), .slice A104_2 ((rd_T31 l0 x5_1).f2).length c104_2], .agg #[.int .i64 ((rd_T31 l1 x5_1).f0), .int .i64 ((rd_T31 l1 x5_1).f1), .slice A105_2 ((rd_T31 l1 x5_1).f2).length c105_2]] (by rfl) rfl rfl (by (try simp only [List.map_toArray, List.map_cons, List.map_nil]); first | done | rfl | (simp only [List.length_drop, List.length_take]; rfl)) ?_
        with_reducible refine (laws_eqEx.calls_g k1 (fun A0 c0 l0 A1 c1 l1 r w hr0 hc0 hr1 hc1 h => ih k1 (by first | omega | (have := HK1.out; omega) | (have := HJ1.out; omega) | (have := HK1.out; have := HJ1.out; omega) | (have := HK2.out; omega) | (have := HK1.out; have := HK2.out; omega)) A0 c0 l0 A1 c1 l1 r w hr0 hc0 hr1 hc1 h) ((rd_T31 l0 x5_1).f0) ((rd_T31 l0 x5_1).f1) _ _ ((rd_T31 l0 x5_1).f2) ((rd_T31 l1 x5_1).f0) ((rd_T31 l1 x5_1).f1) _ _ ((rd_T31 l1 x5_1).f2) true _ ?side1 ?side2 ?side3 ?side4 A7.out).mono ?_
        (case side1 => repeat (first | exact (Kd.C_below HR104_2.out HB.out) | (with_reducible refine Kd.C_alloc ?_ _) | (with_reducible refine Kd.C_drewN ?_ _) | (with_reducible refine Kd.C_drew ?_)))
        (case side2 => exact HC104_2.out)
        (case side3 => repeat (first | exact (Kd.C_below HR105_2.out HB.out) | (with_reducible refine Kd.C_alloc ?_ _) | (with_reducible refine Kd.C_drewN ?_ _) | (with_reducible refine Kd.C_drew ?_)))
        (case side4 => exact HC105_2.out)
        rintro e w10 ⟨rfl, hb⟩
        refine ⟨_, rfl, ?_⟩
        have n0_ := Aside0.mk (below_step (by repeat (first | (with_reducible first | exact HB.out | apply below_alloc | apply pw_below_drewN | apply below_drew1) | exact HB.out)) hb)
        clear HB
        have HB := n0_
        clear n0_
        (try clear hb)
        (try clear hb2)
        (try clear hk)
        (try clear hi)
        refine hK.out _ _ ⟨((HB.out.cell (World.block_lt_of_cell? w _ hw104_0)).trans hw104_0), ((HB.out.cell (World.block_lt_of_cell? w _ hw104_1)).trans hw104_1), ((HB.out.cell (World.block_lt_of_cell? w _ hw104_2)).trans hw104_2), ((HB.out.cell (World.block_lt_of_cell? w _ hw105_0)).trans hw105_0), ((HB.out.cell (World.block_lt_of_cell? w _ hw105_1)).trans hw105_1), ((HB.out.cell (World.block_lt_of_cell? w _ hw105_2)).trans hw105_2)⟩ (fun hHeld => ?_)
        clear hK K
        refine norm_ (a' := ?_) ?_ ?_
        rotate_left
        ·show Act.put _ (some 25) _ = _
         simp only [Act.put, List.setIfInBounds_toArray, List.set_cons_zero, List.set_cons_succ, i64_w, i32_w]
         rfl
        refine pure_ (i := 9) (N := some 26) (v := ?_) (a' := ?_) #[true, true, true, true, true, true, true, true, true, true] rfl rfl (any_of HT_.out (by kernel_rfl)) (fun _ _ _ h => h) (Or.inl ⟨by rfl, ?_⟩) ?_ ?_
        rotate_left
        ·intro w'
         go_simp
         with_reducible rfl
        rotate_left
        ·simp only [Act.put, List.setIfInBounds_toArray, List.set_cons_zero, List.set_cons_succ, i64_w, i32_w]
         rfl
        refine done_ (done_of HT_.out (by kernel_rfl)) ?_
        try go_wp2
        go_roundg k1
        case measure => have := HK1.out; omega
        case rel => exact ⟨(wrap64 (x5_1 + 1)), (by first | rfl | (simp; done) | (simp [*]; done)), H', ⟨by have := HK1.out; omega⟩, ⟨by repeat (first | (with_reducible first | exact HB.out | apply below_alloc | apply pw_below_drewN | apply below_drew1) | exact HB.out)⟩⟩
       ·replace c8 := Bool.eq_false_iff.mpr c8
        subst c8
        have H1 : (some false) = some r := by rw [if_neg (show ¬ (false = true) by decide)] at H; exact H
        clear H
        have H := H1
        clear H1
        obtain rfl := Option.some.inj H
        try go_wp2
        have n0_ := Aside0.mk (below_drew1 HB.out)
        clear HB
        have HB := n0_
        clear n0_
        have p104 : 0 ≤ (x5_1 : Int) := of_decide_eq_true (by first | (with_reducible assumption) | assumption)
        have q104 : x5_1 < (l0.length : Int) := of_decide_eq_true (by first | (with_reducible assumption) | assumption)
        obtain ⟨ad104, A104_2, c104_2, e104, hx104_0, hx104_1, hx104_2, hl104_2, hi104_2⟩ := at_T31 HR0.out x5_1 p104 q104
        have hw104_2 := hx104_2
        have hw104_1 := hx104_1
        have hw104_0 := hx104_0
        cases e104
        replace hx104_0 := (HB.out.cell (World.block_lt_of_cell? w _ hx104_0)).trans hx104_0
        replace hx104_1 := (HB.out.cell (World.block_lt_of_cell? w _ hx104_1)).trans hx104_1
        replace hx104_2 := (HB.out.cell (World.block_lt_of_cell? w _ hx104_2)).trans hx104_2
        have HR104_2 := Aside0.mk hi104_2
        have HC104_2 := Aside0.mk hl104_2
        clear hi104_2 hl104_2
        replace p104 := eq_true p104
        replace q104 := eq_true q104
        have p105 : 0 ≤ (x5_1 : Int) := of_decide_eq_true (by first | (with_reducible assumption) | assumption)
        have q105 : x5_1 < (l1.length : Int) := of_decide_eq_true (by first | (with_reducible assumption) | assumption)
        obtain ⟨ad105, A105_2, c105_2, e105, hx105_0, hx105_1, hx105_2, hl105_2, hi105_2⟩ := at_T31 HR1.out x5_1 p105 q105
        have hw105_2 := hx105_2
        have hw105_1 := hx105_1
        have hw105_0 := hx105_0
        cases e105
        replace hx105_0 := (HB.out.cell (World.block_lt_of_cell? w _ hx105_0)).trans hx105_0
        replace hx105_1 := (HB.out.cell (World.block_lt_of_cell? w _ hx105_1)).trans hx105_1
        replace hx105_2 := (HB.out.cell (World.block_lt_of_cell? w _ hx105_2)).trans hx105_2
        have HR105_2 := Aside0.mk hi105_2
        have HC105_2 := Aside0.mk hl105_2
        clear hi105_2 hl105_2
        replace p105 := eq_true p105
        replace q105 := eq_true q105
        refine start_ (n := 10) (S := fun w' => w'.cell? (ad104.add ((x5_1).toNat * 3)) = some (.int .i64 ((rd_T31 l0 x5_1).f0)) ∧ w'.cell? ⟨(ad104.add ((x5_1).toNat * 3)).block, (ad104.add ((x5_1).toNat * 3)).off + 1, none⟩ = some (.int .i64 ((rd_T31 l0 x5_1).f1)) ∧ w'.cell? ⟨(ad104.add ((x5_1).toNat * 3)).block, (ad104.add ((x5_1).toNat * 3)).off + 2, none⟩ = some (.slice A104_2 ((rd_T31 l0 x5_1).f2).length c104_2) ∧ w'.cell? (ad105.add ((x5_1).toNat * 3)) = some (.int .i64 ((rd_T31 l1 x5_1).f0)) ∧ w'.cell? ⟨(ad105.add ((x5_1).toNat * 3)).block, (ad105.add ((x5_1).toNat * 3)).off + 1, none⟩ = some (.int .i64 ((rd_T31 l1 x5_1).f1)) ∧ w'.cell? ⟨(ad105.add ((x5_1).toNat * 3)).block, (ad105.add ((x5_1).toNat * 3)).off + 2, none⟩ = some (.slice A105_2 ((rd_T31 l1 x5_1).f2).length c105_2)) (ds := []) #[false, false, false, false, false, false, false, false, false, false] (by kernel_rfl) rfl rfl ⟨((HB.out.cell (World.block_lt_of_cell? w _ hw104_0)).trans hw104_0), ((HB.out.cell (World.block_lt_of_cell? w _ hw104_1)).trans hw104_1), ((HB.out.cell (World.block_lt_of_cell? w _ hw104_2)).trans hw104_2), ((HB.out.cell (World.block_lt_of_cell? w _ hw105_0)).trans hw105_0), ((HB.out.cell (World.block_lt_of_cell? w _ hw105_1)).trans hw105_1), ((HB.out.cell (World.block_lt_of_cell? w _ hw105_2)).trans hw105_2)⟩ (fun hHeld => ?_); refine with_tabW laws_eqExS.tab6 laws_eqExS.bits6 (fun HT_ HW_ => ?_)
        generalize wr.drew = w11 at HB HR104_2 HR105_2 hx104_0 hx104_1 hx104_2 hx105_0 hx105_1 hx105_2 hHeld ⊢
        refine pure_ (i := 0) (N := some 17) (v := ?_) (a' := ?_) #[true, false, false, false, false, false, false, false, false, false] rfl rfl (any_of HT_.out (by kernel_rfl)) (fun _ _ _ h => h) (Or.inl ⟨by rfl, ?_⟩) ?_ ?_
        rotate_left
        ·intro w'
         go_simp
         with_reducible rfl
        rotate_left
        ·simp only [Act.put, List.setIfInBounds_toArray, List.set_cons_zero, List.set_cons_succ, i64_w, i32_w]
         rfl
        refine pure_ (i := 1) (N := some 18) (v := ?_) (a' := ?_) #[true, true, false, false, false, false, false, false, false, false] rfl rfl (any_of HT_.out (by kernel_rfl)) (fun _ _ _ h => h) (Or.inl ⟨by rfl, ?_⟩) ?_ ?_
        rotate_left
        ·intro w'
         go_simp
         with_reducible rfl
        rotate_left
        ·simp only [Act.put, List.setIfInBounds_toArray, List.set_cons_zero, List.set_cons_succ, i64_w, i32_w]
         rfl
        refine pure_ (i := 2) (N := some 19) (v := ?_) (a' := ?_) #[true, true, true, false, false, false, false, false, false, false] rfl rfl (any_of HT_.out (by kernel_rfl)) (fun _ _ _ h => h) (Or.inl ⟨by rfl, ?_⟩) ?_ ?_
        rotate_left
        ·intro w'
         go_simp
         with_reducible rfl
        rotate_left
        ·simp only [Act.put, List.setIfInBounds_toArray, List.set_cons_zero, List.set_cons_succ, i64_w, i32_w]
         rfl
        refine pure_ (i := 4) (N := some 21) (v := ?_) (a' := ?_) #[true, true, true, false, true, false, false, false, false, false] rfl rfl (any_of HT_.out (by kernel_rfl)) (fun _ _ _ h => h) (Or.inl ⟨by rfl, ?_⟩) ?_ ?_
        rotate_left
        ·intro w'
         go_simp
         with_reducible rfl
        rotate_left
        ·simp only [Act.put, List.setIfInBounds_toArray, List.set_cons_zero, List.set_cons_succ, i64_w, i32_w]
         rfl
        refine pure_ (i := 5) (N := some 22) (v := ?_) (a' := ?_) #[true, true, true, false, true, true, false, false, false, false] rfl rfl (any_of HT_.out (by kernel_rfl)) (fun _ _ _ h => h) (Or.inl ⟨by rfl, ?_⟩) ?_ ?_
        rotate_left
        ·intro w'
         go_simp
         with_reducible rfl
        rotate_left
        ·simp only [Act.put, List.setIfInBounds_toArray, List.set_cons_zero, List.set_cons_succ, i64_w, i32_w]
         rfl
        refine pure_ (i := 6) (N := some 23) (v := ?_) (a' := ?_) #[true, true, true, false, true, true, true, false, false, false] rfl rfl (any_of HT_.out (by kernel_rfl)) (fun _ _ _ h => h) (Or.inl ⟨by rfl, ?_⟩) ?_ ?_
        rotate_left
        ·intro w'
         go_simp
         with_reducible rfl
        rotate_left
        ·simp only [Act.put, List.setIfInBounds_toArray, List.set_cons_zero, List.set_cons_succ, i64_w, i32_w]
         rfl
        refine take_ (i := 3) (N := some 20) (v := ?_) (a' := ?_) #[true, true, true, true, true, true, true, false, false, false] rfl rfl (take_ofW HT_.out HW_.out (by kernel_rfl)) (fun _ _ _ h => h) (Or.inl ⟨by rfl, ?_⟩) hHeld ?_ ?_
        rotate_left
        ·rintro w' ⟨s0, s1, s2, s3, s4, s5⟩
         go_simp
         with_reducible rfl
        rotate_left
        ·simp only [Act.put, List.setIfInBounds_toArray, List.set_cons_zero, List.set_cons_succ, i64_w, i32_w]
         rfl
        refine take_ (i := 7) (N := some 24) (v := ?_) (a' := ?_) #[true, true, true, true, true, true, true, true, false, false] rfl rfl (take_ofW HT_.out HW_.out (by kernel_rfl)) (fun _ _ _ h => h) (Or.inl ⟨by rfl, ?_⟩) hHeld ?_ ?_
        rotate_left
        ·rintro w' ⟨s0, s1, s2, s3, s4, s5⟩
         go_simp
         with_reducible rfl
        rotate_left
        ·simp only [Act.put, List.setIfInBounds_toArray, List.set_cons_zero, List.set_cons_succ, i64_w, i32_w]
         rfl
        refine one_ (i := 8) (N := some 25) #[true, true, true, true, true, true, true, true, true, false] rfl rfl (one_of HT_.out (by kernel_rfl)) (by decide) (fun K hK => ?_)
        refine goes_ Try.func16 (by kernel_rfl) rfl #[.agg #[.int .i64 ((rd_T31 l0 x5_1).f0), .int .i64 ((rd_T31 l0 x5_1).f1), .slice A104_2 ((rd_T31 l0 x5_1).f2).length c104_2], .agg #[.int .i64 ((rd_T31 l1 x5_1).f0), .int .i64 ((rd_T31 l1 x5_1).f1), .slice A105_2 ((rd_T31 l1 x5_1).f2).length c105_2]] (by rfl) rfl rfl (by (try simp only [List.map_toArray, List.map_cons, List.map_nil]); first | done | rfl | (simp only [List.length_drop, List.length_take]; rfl)) ?_
        with_reducible refine (laws_eqEx.calls_g k1 (fun A0 c0 l0 A1 c1 l1 r w hr0 hc0 hr1 hc1 h => ih k1 (by first | omega | (have := HK1.out; omega) | (have := HJ1.out; omega) | (have := HK1.out; have := HJ1.out; omega) | (have := HK2.out; omega) | (have := HK1.out; have := HK2.out; omega)) A0 c0 l0 A1 c1 l1 r w hr0 hc0 hr1 hc1 h) ((rd_T31 l0 x5_1).f0) ((rd_T31 l0 x5_1).f1) _ _ ((rd_T31 l0 x5_1).f2) ((rd_T31 l1 x5_1).f0) ((rd_T31 l1 x5_1).f1) _ _ ((rd_T31 l1 x5_1).f2) false _ ?side1 ?side2 ?side3 ?side4 A7.out).mono ?_
        (case side1 => repeat (first | exact (Kd.C_below HR104_2.out HB.out) | (with_reducible refine Kd.C_alloc ?_ _) | (with_reducible refine Kd.C_drewN ?_ _) | (with_reducible refine Kd.C_drew ?_)))
        (case side2 => exact HC104_2.out)
        (case side3 => repeat (first | exact (Kd.C_below HR105_2.out HB.out) | (with_reducible refine Kd.C_alloc ?_ _) | (with_reducible refine Kd.C_drewN ?_ _) | (with_reducible refine Kd.C_drew ?_)))
        (case side4 => exact HC105_2.out)
        rintro e w12 ⟨rfl, hb⟩
        refine ⟨_, rfl, ?_⟩
        have n0_ := Aside0.mk (below_step (by repeat (first | (with_reducible first | exact HB.out | apply below_alloc | apply pw_below_drewN | apply below_drew1) | exact HB.out)) hb)
        clear HB
        have HB := n0_
        clear n0_
        (try clear hb)
        (try clear hb2)
        (try clear hk)
        (try clear hi)
        refine hK.out _ _ ⟨((HB.out.cell (World.block_lt_of_cell? w _ hw104_0)).trans hw104_0), ((HB.out.cell (World.block_lt_of_cell? w _ hw104_1)).trans hw104_1), ((HB.out.cell (World.block_lt_of_cell? w _ hw104_2)).trans hw104_2), ((HB.out.cell (World.block_lt_of_cell? w _ hw105_0)).trans hw105_0), ((HB.out.cell (World.block_lt_of_cell? w _ hw105_1)).trans hw105_1), ((HB.out.cell (World.block_lt_of_cell? w _ hw105_2)).trans hw105_2)⟩ (fun hHeld => ?_)
        clear hK K
        refine norm_ (a' := ?_) ?_ ?_
        rotate_left
        ·show Act.put _ (some 25) _ = _
         simp only [Act.put, List.setIfInBounds_toArray, List.set_cons_zero, List.set_cons_succ, i64_w, i32_w]
         rfl
        refine pure_ (i := 9) (N := some 26) (v := ?_) (a' := ?_) #[true, true, true, true, true, true, true, true, true, true] rfl rfl (any_of HT_.out (by kernel_rfl)) (fun _ _ _ h => h) (Or.inl ⟨by rfl, ?_⟩) ?_ ?_
        rotate_left
        ·intro w'
         go_simp
         with_reducible rfl
        rotate_left
        ·simp only [Act.put, List.setIfInBounds_toArray, List.set_cons_zero, List.set_cons_succ, i64_w, i32_w]
         rfl
        refine done_ (done_of HT_.out (by kernel_rfl)) ?_
        try go_wp2
        go_ret
        exact ⟨by first | rfl | (simp [errW_none, errW_some] <;> rfl) | (simp [*, errW_none, errW_some] <;> rfl), by repeat (first | (with_reducible first | exact HB.out | apply below_alloc | apply pw_below_drewN | apply below_drew1) | exact HB.out)⟩
      ·rw [if_neg c6] at H
       exact absurd H (by simp)
     ·rw [if_neg c5] at H
      exact absurd H (by simp)
    ·rw [if_neg c4] at H
     have c4b0 : decide (x5_1 < (l0.length : Int)) = false := decide_eq_false c4
     clear c4
     obtain rfl := Option.some.inj H
     go_wp2
     go_ret
     exact ⟨by first | rfl | (simp [errW_none, errW_some] <;> rfl) | (simp [*, errW_none, errW_some] <;> rfl), by repeat (first | (with_reducible first | exact HB.out | apply below_alloc | apply pw_below_drewN | apply below_drew1) | exact HB.out)⟩
 ·rw [if_neg c3] at H
  have c3b0 : ((l0.length : Int) == (l1.length : Int)) = false := beq_eq_false_iff_ne.mpr c3
  have c3b1 : ((l0.length : Int) != (l1.length : Int)) = true := bne_iff_ne.mpr c3
  have c3b2 : (l0.length == l1.length) = false := by first | simpa using c3 | (simp at c3 ⊢; omega)
  obtain rfl := Option.some.inj H
  go_enter Try.func33, Try.ntmps33
  go_wp2
  go_ret
  exact ⟨by first | rfl | (simp [errW_none, errW_some] <;> rfl) | (simp [*, errW_none, errW_some] <;> rfl), by repeat (first | (with_reducible first | exact HB.out | apply below_alloc | apply pw_below_drewN | apply below_drew1) | exact HB.out)⟩
end Go.Proofs.Ytcmkkoggdcjceaa.PFnExactWordBits
end
section
namespace Go.Proofs.Ytcmkkoggdcjceaa.PFnExactWordBits
open Go.RowKit Go.Proofs.YtcmkkoggdcjceaaW.PrintWords Go.Proofs.YtcmkkoggdcjceaaW.PrintLast Go.Proofs.YtcmkkoggdcjceaaW.PrintMore
attribute [local go_sem] max2_int min2_int max_two min_two max_three min_three max_four min_four   -- for this text's walks alone
set_option linter.unusedVariables false
set_option linter.unusedSimpArgs false
def sliceS {α : Type} (e : Nat) (d : Kd α) : Kd (List α) where
 sz := 1
 E := e :: d.E
 K := (Kd.slice e d).K
 M := fun w base ok xs cs => ∃ v, cs = [v] ∧ Kd.S d e w base ok v xs
 K_len := (Kd.slice e d).K_len
 K_one := (Kd.slice e d).K_one
 K_below := (Kd.slice e d).K_below
 K_of_M := by
  rintro w base ok x cs ⟨v, rfl, h⟩
  obtain ⟨A, c, rfl, hl, hr⟩ := Kd.S_reads h
  exact ⟨A, c, rfl, hl, hr⟩
 M_mono := by
  rintro w base ok ok' x cs hok ⟨v, rfl, h⟩
  exact ⟨v, rfl, Kd.S_mono h hok⟩
 M_bound := by
  rintro w base ok x cs ⟨v, rfl, h⟩
  exact ⟨v, rfl, Kd.S_bound h⟩
 M_move := by
  rintro w w1 base ok x cs hm ⟨v, rfl, h⟩
  exact ⟨v, rfl, Kd.S_move h hm⟩
 M_lower := by
  rintro w base base' ok x cs hb ⟨v, rfl, h⟩
  exact ⟨v, rfl, Kd.S_lower h hb⟩
theorem S_imp {α : Type} {d d' : Kd α} (hs : d.sz = d'.sz) (h : ∀ w base ok x cs, d.M w base ok x cs → d'.M w base ok x cs) {e : Nat} {w : World} {base : Nat} {ok : Nat → Prop} {v : Value} {xs : List α} (hr : Kd.S d e w base ok v xs) : Kd.S d' e w base ok v xs := by
 obtain ⟨f, hr⟩ := hr
 exact ⟨f, Kd.R_imp (d := Kd.tag f d) (d' := Kd.tag f d') hs (fun w base ok x cs hp => h w base _ x.1 cs hp) hr⟩
theorem mono_sliceS {α β : Type} (e : Nat) {G : Kd α → Kd β} (hG : Kd.Mono G) : Kd.Mono (fun d => sliceS e (G d)) := by
 refine ⟨fun _ _ _ => rfl, (Kd.mono_slice e hG).K, ?_⟩
 rintro d d' hs h w base ok x cs ⟨v, rfl, hr⟩
 exact ⟨v, rfl, S_imp (hG.sz d d' hs) (hG.M d d' hs h) hr⟩
theorem sub_sliceS {α β : Type} {E : List Nat} (e : Nat) {G : Kd α → Kd β} (he : e ∈ E) (hG : Kd.Sub G E) : Kd.Sub (fun d => sliceS e (G d)) E := Kd.sub_slice e he hG
theorem fix_S_back {α : Type} {F : Kd α → Kd α} {sz : Nat} {E : List Nat} {hs : ∀ n, (Kd.upto F sz E n).sz = sz} {hE : ∀ n q, q ∈ (Kd.upto F sz E n).E → q ∈ E} (hm : Kd.Mono F) {e : Nat} {w : World} {base : Nat} {ok : Nat → Prop} {v : Value} {xs : List α} (h : Kd.S (Kd.fix F sz E hs hE) e w base ok v xs) : ∃ n, Kd.S (Kd.upto F sz E n) e w base ok v xs := by
 obtain ⟨f, h0, inner, ho, hr⟩ := h
 obtain ⟨N, hN⟩ := Kd.reps_bounded (R := fun n p c => (Kd.tag f (Kd.upto F sz E n)).M w base (fun k => ok k ∧ some k ≠ v.ownBlock) p c) (fun n m p c hnm hp => Kd.upto_M_le hm hs hnm hp) hr
 have hsN : (Kd.tag f (Kd.upto F sz E N)).sz = sz := hs N
 refine ⟨N, f, h0, inner, ?_, ?_⟩
 ·rw [hsN]; exact ho
 ·rw [hsN]; exact hN
def FS31 (d : Kd S31) : Kd S31 := Kd.iso (Kd.pair (Kd.int .i64) (Kd.pair (Kd.int .i64) (sliceS 31 d))) (fun x : S31 => (x.f0, x.f1, x.f2))
theorem monoS31 : Kd.Mono FS31 := Kd.mono_iso _ (Kd.mono_pair (Kd.mono_const _) (Kd.mono_pair (Kd.mono_const _) (mono_sliceS 31 Kd.mono_id)))
theorem subS31 : Kd.Sub FS31 [31] := Kd.sub_iso _ (Kd.sub_pair (Kd.sub_const _ (by decide)) (Kd.sub_pair (Kd.sub_const _ (by decide)) (sub_sliceS 31 (by decide) Kd.sub_id)))
theorem szS31 : ∀ n, (Kd.upto FS31 3 [31] n).sz = 3 := Kd.upto_sz (fun _ => rfl)
def kS31 : Kd S31 := Kd.fix FS31 3 [31] szS31 (Kd.upto_E subS31)
theorem kS31_openM {w : World} {base : Nat} {ok : Nat → Prop} {x : S31} {cs : List Value} (h : kS31.M w base ok x cs) : ∃ v2, cs = [.int .i64 x.f0, .int .i64 x.f1, v2] ∧ Kd.S kS31 31 w base ok v2 x.f2 := by
 obtain ⟨n, h⟩ := h
 cases n with
 | zero => exact h.elim
 | succ n =>
  obtain ⟨_, _, rfl, rfl, ⟨_, _, rfl, rfl, ⟨v2, rfl, g2⟩⟩⟩ := h
  exact ⟨v2, rfl, S_imp (d' := kS31) (szS31 n) (fun w base ok x cs hp => ⟨n, hp⟩) g2⟩
theorem kS31_mkM (w : World) (base : Nat) (ok : Nat → Prop) (x : S31) {v2 : Value} (g2 : Kd.S kS31 31 w base ok v2 x.f2) : kS31.M w base ok x [.int .i64 x.f0, .int .i64 x.f1, v2] := by
 obtain ⟨n2, q2⟩ := fix_S_back monoS31 g2
 exact ⟨n2 + 1, ⟨[.int .i64 x.f0], [.int .i64 x.f1, v2], rfl, rfl, ⟨[.int .i64 x.f1], [v2], rfl, rfl, ⟨v2, rfl, q2⟩⟩⟩⟩
theorem kS31_upto_K : ∀ n {w : World} {x : S31} {cs : List Value}, (Kd.upto FS31 3 [31] n).K w x cs → (Kd.upto F31 3 [31] n).K w x cs := by
 intro n
 induction n with
 | zero => exact fun h => h
 | succ n ih =>
  rintro w x cs ⟨c0, c1, rfl, h0, c2, c3, rfl, h1, A, c, rfl, hl, hc⟩
  exact ⟨c0, _, rfl, h0, c2, _, rfl, h1, A, c, rfl, hl, Kd.C_imp ((szS31 n).trans (sz31 n).symm) (fun w x cs h => ih h) hc⟩
theorem kS31_K {w : World} {x : S31} {cs : List Value} (h : kS31.K w x cs) : k31.K w x cs := by
 obtain ⟨n, h⟩ := h
 exact ⟨n, kS31_upto_K n h⟩
theorem kS31_C {w : World} {A : Option Addr} {n : Nat} {xs : List S31} (h : Kd.C kS31 w A n xs) : Kd.C k31 w A n xs := Kd.C_imp (d := kS31) (d' := k31) rfl (fun _ _ _ h => kS31_K h) h
theorem S_tell {α β : Type} {d : Kd α} {d' : Kd β} {e e' b : Nat} {W w1 : World} {ok ok' : Nat → Prop} {v u : Value} {ys : List α} {xs : List β} (hb : Below W.heap.size W w1) (h : Kd.S d e w1 W.heap.size ok v ys) : ∃ N, Kd.S d e w1 W.heap.size (fun k => ok k ∧ N ≤ k) v ys ∧ (Kd.S d' e' W b ok' u xs → Kd.S d' e' w1 b (fun k => ok' k ∧ k < N) u xs) :=
 ⟨W.heap.size, Kd.S_mono (Kd.S_bound h) (fun _ hk => ⟨hk.1, hk.2.1⟩), fun h1 => Kd.S_old h1 hb⟩
mutual
def nT : S31 → Nat
 | ⟨_, _, l⟩ => 1 + nL l
def nL : List S31 → Nat
 | [] => 0
 | x :: r => nT x + nL r
end
mutual
def mkT : S31 → Int → S31
 | ⟨_, _, l⟩, a => ⟨a, a + 1, mkL l (a + 2)⟩
def mkL : List S31 → Int → List S31
 | [], _ => []
 | x :: r, a => mkT x a :: mkL r (a + 2 * nT x)
end
theorem nT_eq (x : S31) : nT x = 1 + nL x.f2 := by
 obtain ⟨a, b, l⟩ := x
 rw [nT]
theorem mkT_eq (x : S31) (a : Int) : mkT x a = ⟨a, a + 1, mkL x.f2 (a + 2)⟩ := by
 obtain ⟨b, c, l⟩ := x
 rw [mkT]
theorem mkL_length : ∀ (l : List S31) (a : Int), (mkL l a).length = l.length
 | [], _ => by rw [mkL]
 | x :: r, a => by rw [mkL, List.length_cons, List.length_cons, mkL_length r]
theorem nL_take : ∀ (l : List S31) (i : Nat) (x : S31), l[i]? = some x → nL (l.take (i + 1)) = nL (l.take i) + nT x
 | [], i, x, h => by cases h
 | y :: r, 0, x, h => by
  obtain rfl : y = x := by simpa using h
  simp [nL]
 | y :: r, i + 1, x, h => by
  have := nL_take r i x (by simpa using h)
  rw [List.take_succ_cons, List.take_succ_cons, nL, nL, this]
  omega
theorem nL_take_le : ∀ (l : List S31) (i : Nat), nL (l.take i) ≤ nL l
 | [], i => by simp [nL]
 | y :: r, 0 => by simp [nL]
 | y :: r, i + 1 => by
  rw [List.take_succ_cons, nL, nL]
  have := nL_take_le r i
  omega
theorem mkL_at : ∀ (l : List S31) (a : Int) (i : Nat) (x : S31), l[i]? = some x → (mkL l a)[i]? = some (mkT x (a + 2 * nL (l.take i)))
 | [], _, i, x, h => by cases h
 | y :: r, a, 0, x, h => by
  obtain rfl : y = x := by simpa using h
  rw [mkL]
  simp [nL]
 | y :: r, a, i + 1, x, h => by
  rw [mkL, List.getElem?_cons_succ, mkL_at r _ i x (by simpa using h), List.take_succ_cons, nL]
  congr 2
  omega
inductive OT : World → (Nat → Prop) → Value → List S31 → Prop
 | nil (w : World) (P : Nat → Prop) (A : Option Addr) (c : Nat) : OT w P (.slice A 0 c) []
 | row {w : World} {P : Nat → Prop} {g cap : Nat} {xs : List S31} (cur : Array Value) (f : Nat → Nat) (vs : Nat → Value) (hp : 0 < xs.length) (hc : xs.length ≤ cap) (hm : xs.length ≤ 9223372036854775807) (hg : P g) (hb : w.heap[g]? = some (.cells cur 31 (0, 0)))
   (hcell : ∀ j x, xs[j]? = some x → cur[j * 3]? = some (.int .i64 x.f0) ∧ cur[j * 3 + 1]? = some (.int .i64 x.f1) ∧ cur[j * 3 + 2]? = some (vs j))
   (hk : ∀ j x, xs[j]? = some x → OT w (fun k => (P k ∧ k ≠ g) ∧ f k = j) (vs j) x.f2) : OT w P (.slice (some ⟨g, 0, none⟩) xs.length cap) xs
theorem OT.move {w : World} {P : Nat → Prop} {v : Value} {xs : List S31} (h : OT w P v xs) : ∀ {w1 : World}, (∀ k, P k → k < w.heap.size → w1.heap[k]? = w.heap[k]?) → OT w1 P v xs := by
 induction h with
 | nil => exact fun _ => .nil _ _ _ _
 | row cur f vs hp hc hm hg hb hcell hk ih =>
  intro w1 hmv
  exact .row cur f vs hp hc hm hg ((hmv _ hg (blk_lt hb)).trans hb) hcell (fun j x hx => ih j x hx (fun k hk hlt => hmv k hk.1.1 hlt))
theorem OT.kept {w w1 : World} {P S : Nat → Prop} {v : Value} {xs : List S31} (h : OT w P v xs) (hk : Kept w w1 S) (hn : ∀ k, P k → ¬ S k) : OT w1 P v xs := h.move (fun k hp hlt => hk.2 k hlt (hn k hp))
theorem OT.reads {w : World} {P : Nat → Prop} {v : Value} {xs : List S31} (h : OT w P v xs) : ∃ A c, v = .slice A xs.length c ∧ xs.length ≤ c ∧ Kd.C k31 w A xs.length xs := by
 induction h with
 | nil P A c => exact ⟨A, c, rfl, by simp, rfl, by simp, fun h => absurd h (by simp)⟩
 | @row P g cap xs cur f vs hp hc hm hg hb hcell hk ih =>
  refine ⟨_, _, rfl, hc, rfl, hm, fun _ => ⟨_, rfl, fun j x hx => ?_⟩⟩
  obtain ⟨h0, h1, h2⟩ := hcell j x hx
  obtain ⟨A, c, ev, hlc, hC⟩ := ih j x hx
  rw [ev] at h2
  refine ⟨[.int .i64 x.f0, .int .i64 x.f1, .slice A x.f2.length c], rfl, k31_mk w x hlc hC, fun i u hu => ?_⟩
  rw [add_at, Nat.zero_add, blk_cell hb]
  show cur[j * 3 + i]? = some u
  match i, hu with
  | 0, hu => cases hu; exact h0
  | 1, hu => cases hu; exact h1
  | 2, hu => cases hu; exact h2
theorem OT.of : ∀ (d : Nat) (xs : List S31), SizeOf.sizeOf xs < d → ∀ {w : World} {base : Nat} {P : Nat → Prop} {v : Value}, Kd.S kS31 31 w base P v xs → OT w P v xs := by
 intro d
 induction d with
 | zero => exact fun xs h => absurd h (Nat.not_lt_zero _)
 | succ d ih =>
  intro xs hd w base P v h
  obtain ⟨A, c, ev, hlc, hC⟩ := Kd.S_reads h
  have hmax : xs.length ≤ 9223372036854775807 := Kd.C_max hC
  subst ev
  rcases Nat.eq_zero_or_pos xs.length with hz | hp
  ·obtain rfl := List.eq_nil_of_length_eq_zero hz
   exact .nil _ _ _ _
  ·obtain ⟨g, cap, e, _, _, cells, hb⟩ := Kd.S_form h hp
   cases e
   obtain ⟨f, hR⟩ := h
   have key : ∀ j : Nat, ∃ v, ∀ x, xs[j]? = some x → cells[j * 3]? = some (.int .i64 x.f0) ∧ cells[j * 3 + 1]? = some (.int .i64 x.f1) ∧ cells[j * 3 + 2]? = some v ∧ Kd.S kS31 31 w base (fun k => (P k ∧ k ≠ g) ∧ f k = j) v x.f2 := by
    intro j
    by_cases hj : j < xs.length
    ·obtain ⟨c, hc, hM, hcell, _⟩ := Kd.R_elem hR ((z31, 0) : S31 × Nat) (j : Int) (by omega) (by omega)
     rw [Int.toNat_natCast] at hM hcell
     have he : xs.zipIdx.getD j ((z31, 0) : S31 × Nat) = (xs[j], j) := by
      rw [List.getD_eq_getElem?_getD, List.getElem?_zipIdx, List.getElem?_eq_getElem hj, Nat.zero_add]
      rfl
     rw [he] at hM
     obtain ⟨v, rfl, hS⟩ := kS31_openM hM
     refine ⟨v, fun x hx => ?_⟩
     rw [List.getElem?_eq_getElem hj] at hx
     cases hx
     have q : ∀ i u, ([.int .i64 xs[j].f0, .int .i64 xs[j].f1, v] : List Value)[i]? = some u → cells[j * 3 + i]? = some u := fun i u hu => by
      have h9 := hcell i u hu
      exact (blk_cell hb _).symm.trans h9
     exact ⟨q 0 _ rfl, q 1 _ rfl, q 2 _ rfl, hS⟩
    ·exact ⟨undef, fun x hx => by rw [List.getElem?_eq_none (by omega)] at hx; cases hx⟩
   refine .row cells f (fun j => (key j).choose) hp hlc hmax (hR.1 g (by simp [Value.ownBlock])) hb (fun j x hx => ?_) (fun j x hx => ?_)
   ·obtain ⟨h0, h1, h2, _⟩ := (key j).choose_spec x hx
    exact ⟨h0, h1, h2⟩
   ·refine ih x.f2 ?_ ((key j).choose_spec x hx).2.2.2
    have h1 := List.sizeOf_lt_of_mem (List.mem_of_getElem? hx)
    have h2 : SizeOf.sizeOf x.f2 < SizeOf.sizeOf x := by
     obtain ⟨a, b, l⟩ := x
     simp
     omega
    omega
def RW (w : World) (P : Nat → Prop) (g n : Nat) (f : Nat → Nat) (vs : Nat → Value) (ys : Nat → S31) : Prop :=
 ∃ cur : Array Value, w.heap[g]? = some (.cells cur 31 (0, 0)) ∧ ∀ j, j < n → cur[j * 3]? = some (.int .i64 (ys j).f0) ∧ cur[j * 3 + 1]? = some (.int .i64 (ys j).f1) ∧ cur[j * 3 + 2]? = some (vs j) ∧ OT w (fun k => (P k ∧ k ≠ g) ∧ f k = j) (vs j) (ys j).f2
theorem RW.put {w : World} {P : Nat → Prop} {g n : Nat} {f : Nat → Nat} {vs : Nat → Value} {ys : Nat → S31} (h : RW w P g n f vs ys) (i : Nat) (hi : i < n) (q : Nat) (b : Int) (y : S31) (hy : (q = 0 ∧ y = ⟨b, (ys i).f1, (ys i).f2⟩) ∨ (q = 1 ∧ y = ⟨(ys i).f0, b, (ys i).f2⟩)) : RW (w.setCell ⟨g, i * 3 + q, none⟩ (.int .i64 b)) P g n f vs (fun j => if j = i then y else ys j) := by
 obtain ⟨cur, hb, hr⟩ := h
 refine ⟨_, blk_set hb _ _, fun j hj => ?_⟩
 obtain ⟨h0, h1, h2, h3⟩ := hr j hj
 obtain ⟨i0, i1, i2, i3⟩ := hr i hi
 have hs0 := (Array.getElem?_eq_some_iff.1 i0).1
 have hs1 := (Array.getElem?_eq_some_iff.1 i1).1
 have hO : OT (w.setCell ⟨g, i * 3 + q, none⟩ (.int .i64 b)) (fun k => (P k ∧ k ≠ g) ∧ f k = j) (vs j) (ys j).f2 := h3.move (fun k hk _ => Below.heap_setCell w _ _ k hk.1.2)
 by_cases e : j = i
 ·subst e
  simp only [↓reduceIte]
  rcases hy with ⟨rfl, rfl⟩ | ⟨rfl, rfl⟩
  ·refine ⟨?_, ?_, ?_, hO⟩
   ·rw [Array.getElem?_setIfInBounds, if_pos (by omega), if_pos (by omega)]
   ·rw [Array.getElem?_setIfInBounds, if_neg (by omega)]; exact h1
   ·rw [Array.getElem?_setIfInBounds, if_neg (by omega)]; exact h2
  ·refine ⟨?_, ?_, ?_, hO⟩
   ·rw [Array.getElem?_setIfInBounds, if_neg (by omega)]; exact h0
   ·rw [Array.getElem?_setIfInBounds, if_pos (by omega), if_pos (by omega)]
   ·rw [Array.getElem?_setIfInBounds, if_neg (by omega)]; exact h2
 ·simp only [if_neg e]
  have hq : q = 0 ∨ q = 1 := by rcases hy with h | h <;> simp [h.1]
  refine ⟨?_, ?_, ?_, hO⟩
  ·rw [Array.getElem?_setIfInBounds, if_neg (by omega)]; exact h0
  ·rw [Array.getElem?_setIfInBounds, if_neg (by omega)]; exact h1
  ·rw [Array.getElem?_setIfInBounds, if_neg (by omega)]; exact h2
theorem RW.call {w w1 : World} {P : Nat → Prop} {g n : Nat} {f : Nat → Nat} {vs : Nat → Value} {ys : Nat → S31} (h : RW w P g n f vs ys) (i : Nat) (l : List S31) (hk : Kept w w1 (fun k => (P k ∧ k ≠ g) ∧ f k = i)) (hO : OT w1 (fun k => (P k ∧ k ≠ g) ∧ f k = i) (vs i) l) : RW w1 P g n f vs (fun j => if j = i then ⟨(ys i).f0, (ys i).f1, l⟩ else ys j) := by
 obtain ⟨cur, hb, hr⟩ := h
 refine ⟨cur, blk_kept hb hk (fun hg => hg.1.2 rfl), fun j hj => ?_⟩
 obtain ⟨h0, h1, h2, h3⟩ := hr j hj
 by_cases e : j = i
 ·subst e
  simp only [↓reduceIte]
  exact ⟨h0, h1, h2, hO⟩
 ·simp only [if_neg e]
  exact ⟨h0, h1, h2, h3.kept hk (fun k h4 h5 => e (h4.2.symm.trans h5.2))⟩
theorem OT.rw_of {w : World} {P : Nat → Prop} {v : Value} {xs : List S31} (h : OT w P v xs) : ∃ A c, v = .slice A xs.length c ∧ xs.length ≤ c ∧ xs.length ≤ 9223372036854775807 ∧ ∃ f vs, 0 < xs.length → ∃ g, A = some ⟨g, 0, none⟩ ∧ P g ∧ RW w P g xs.length f vs (fun j => xs.getD j z31) := by
 cases h with
 | nil _ A c => exact ⟨A, c, rfl, by simp, by simp, fun _ => 0, fun _ => undef, fun h => absurd h (by simp)⟩
 | row cur f vs hp hc hm hg hb hcell hk =>
  refine ⟨_, _, rfl, hc, hm, f, vs, fun _ => ⟨_, rfl, hg, cur, hb, fun j hj => ?_⟩⟩
  have hx : xs[j]? = some (xs.getD j z31) := by rw [List.getD_eq_getElem?_getD, List.getElem?_eq_getElem hj]; rfl
  obtain ⟨h0, h1, h2⟩ := hcell j _ hx
  exact ⟨h0, h1, h2, hk j _ hx⟩
theorem OT.of_rw {w : World} {P : Nat → Prop} {g n cap : Nat} {f : Nat → Nat} {vs : Nat → Value} {ys : Nat → S31} (h : RW w P g n f vs ys) (hg : P g) (hp : 0 < n) (hc : n ≤ cap) (hm : n ≤ 9223372036854775807) (xs : List S31) (hn : xs.length = n) (hx : ∀ j x, xs[j]? = some x → ys j = x) : OT w P (.slice (some ⟨g, 0, none⟩) n cap) xs := by
 subst hn
 obtain ⟨cur, hb, hr⟩ := h
 have hlt : ∀ j x, xs[j]? = some x → j < xs.length := fun j x h => (List.getElem?_eq_some_iff.1 h).1
 refine .row cur f vs hp hc hm hg hb (fun j x h => ?_) (fun j x h => ?_)
 ·obtain ⟨h0, h1, h2, _⟩ := hr j (hlt j x h)
  rw [hx j x h] at h0 h1
  exact ⟨h0, h1, h2⟩
 ·have h3 := (hr j (hlt j x h)).2.2.2
  rw [hx j x h] at h3
  exact h3
set_option maxHeartbeats 1600000 in
set_option maxRecDepth 100000 in
theorem markExS_any : ∀ (d : Nat) (xs : List S31), SizeOf.sizeOf xs < d → ∀ (P : Nat → Prop) (v : Value) (a : Int) (w0 w : World), Below w0.heap.size w0 w → (∀ k, P k → w0.heap.size ≤ k) → OT w P v xs → 0 ≤ a → a + 2 * nL xs ≤ 2305843009213693952 →
  Calls Try.prog 34 #[v, .int .i64 a] w fun e w' => e = .returned (.int .i64 (a + 2 * nL xs)) ∧ OT w' P v (mkL xs a) ∧ Below w0.heap.size w0 w' ∧ Kept w w' P := by
 intro d
 induction d with
 | zero => exact fun xs h => absurd h (Nat.not_lt_zero _)
 | succ d ih =>
  intro xs hd P v a w0 w hB hP hO ha0 ha1
  obtain ⟨A, c, ev, hlc, hmax, f, vs, hrw⟩ := hO.rw_of
  subst ev
  have HIH := Aside0.mk ih
  have HD := Aside0.mk hd
  have HP := Aside0.mk hP
  have HF := Aside0.mk (fun h => (hrw h).imp (fun g hg => (⟨hg.1, hg.2.1⟩ : A = some ⟨g, 0, none⟩ ∧ P g)))
  have HR := Aside0.mk (show ∃ ys : Nat → S31, (∀ g, A = some ⟨g, 0, none⟩ → 0 < xs.length → RW w P g xs.length f vs ys) ∧ ∀ j x, xs[j]? = some x → ys j = if j < 0 then mkT x (a + 2 * nL (xs.take j)) else x from
   ⟨fun j => xs.getD j z31, fun g hg hp => by obtain ⟨g', hg', _, hr⟩ := hrw hp; rw [hg] at hg'; cases hg'; exact hr, fun j x hx => by rw [if_neg (by omega)]; show xs.getD j z31 = x; rw [List.getD_eq_getElem?_getD, hx]; rfl⟩)
  have HB := Aside0.mk hB
  have HK := Aside0.mk (Kept.refl w P)
  have HA := Aside0.mk ha1
  clear hO hB hP hrw ih hd ha1
  go_enter Try.func34, Try.ntmps34
  go_wp2
  go_loopg [1, 5] xs.length (fun gg v1 v5 wr => ∃ kk : Nat, v1 = .int .i64 (a + 2 * nL (xs.take kk)) ∧ v5 = .int .i64 kk ∧ kk ≤ xs.length ∧ xs.length - kk ≤ gg ∧ Aside0 (∃ ys : Nat → S31, (∀ g, A = some ⟨g, 0, none⟩ → 0 < xs.length → RW wr P g xs.length f vs ys) ∧ ∀ j x, xs[j]? = some x → ys j = if j < kk then mkT x (a + 2 * nL (xs.take j)) else x) ∧ Aside0 (Below w0.heap.size w0 wr) ∧ Aside0 (Kept w wr P))
  case atStart => exact ⟨0, by simp [nL], rfl, Nat.zero_le _, by omega, HR, HB, HK⟩
  case round =>
   clear HR HB HK
   obtain ⟨kk, rfl, rfl, hk, hg, HR, HB, HK⟩ := hrel
   by_cases hlt : kk < xs.length
   ·obtain ⟨g, ea, hPg⟩ := HF.out (by omega)
    subst ea
    obtain ⟨ys, hr0, hys⟩ := HR.out
    have hr := hr0 g rfl (by omega)
    obtain ⟨x, hx⟩ : ∃ x, xs[kk]? = some x := ⟨_, List.getElem?_eq_getElem hlt⟩
    have hyk : ys kk = x := by rw [hys kk x hx, if_neg (by omega)]
    have hnt := nL_take xs kk x hx
    have hnl := nL_take_le xs (kk + 1)
    have hA := HA.out
    have hnT := nT_eq x
    have hd2 : SizeOf.sizeOf x.f2 < d := by
     have h1 := List.sizeOf_lt_of_mem (List.mem_of_getElem? hx)
     have h2 : SizeOf.sizeOf x.f2 < SizeOf.sizeOf x := by
      obtain ⟨a, b, l⟩ := x
      simp
      omega
     have := HD.out
     omega
    obtain ⟨b, hb⟩ : ∃ b : Int, b = a + 2 * nL (xs.take kk) := ⟨_, rfl⟩
    rw [← hb]
    have hb0 : 0 ≤ b := by omega
    have hb2 : b + 2 + 2 * (nL x.f2 : Int) ≤ 2305843009213693952 := by omega
    have e1 : IntKind.i64.wrap (b + 1) = b + 1 := IntWalk.i64_in _ (by omega)
    have e2 : IntKind.i64.wrap (b + 1 + 1) = b + 2 := (IntWalk.i64_in _ (by omega)).trans (by omega)
    have e3 : IntKind.i64.wrap ((kk : Int) + 1) = ((kk + 1 : Nat) : Int) := IntWalk.i64_in _ (by omega)
    have hltz : (kk : Int) < (xs.length : Int) := by omega
    have h0z : (0 : Int) ≤ (kk : Int) := by omega
    -- the first store
    have hr1 := hr.put kk hlt 0 b ⟨b, x.f1, x.f2⟩ (.inl ⟨rfl, by rw [hyk]⟩)
    have hr2 := hr1.put kk hlt 1 (b + 1) ⟨b, b + 1, x.f2⟩ (.inr ⟨rfl, by simp⟩)
    have hB2 := below_set (j := kk * 3 + 1) (v := .int .i64 (b + 1)) (below_set (j := kk * 3 + 0) (v := .int .i64 b) HB.out (HP.out g hPg)) (HP.out g hPg)
    obtain ⟨w1, hw1⟩ : ∃ w1, wr.setCell ⟨g, kk * 3 + 0, none⟩ (.int .i64 b) = w1 := ⟨_, rfl⟩
    rw [hw1] at hr1 hr2 hB2
    obtain ⟨w2, hw2⟩ : ∃ w2, w1.setCell ⟨g, kk * 3 + 1, none⟩ (.int .i64 (b + 1)) = w2 := ⟨_, rfl⟩
    rw [hw2] at hr2 hB2
    have hK2 : Kept wr w2 P := by
     rw [← hw2, ← hw1]
     exact ((Kept.refl wr P).setCell (.inl hPg) _).setCell (.inl hPg) _
    obtain ⟨cur, hcb, hcr⟩ := hr
    obtain ⟨c0, c1, c2, _⟩ := hcr kk hlt
    have x0 : wr.cell? ⟨g, kk * 3, none⟩ = some (.int .i64 (ys kk).f0) := (blk_cell hcb _).trans c0
    have f0 : wr.frozen? ⟨g, kk * 3, none⟩ = false := blk_frozen hcb _
    obtain ⟨cur1, hcb1, hcr1⟩ := hr1
    obtain ⟨c0, c1, c2, _⟩ := hcr1 kk hlt
    have x1 := (blk_cell hcb1 (kk * 3 + 1)).trans c1
    have f1 : w1.frozen? ⟨g, kk * 3 + 1, none⟩ = false := blk_frozen hcb1 _
    have hr3 := hr2
    obtain ⟨cur2, hcb2, hcr2⟩ := hr2
    obtain ⟨c0, c1, c2, hO2⟩ := hcr2 kk hlt
    have x2 : w2.cell? ⟨g, kk * 3 + 2, none⟩ = some (vs kk) := (blk_cell hcb2 (kk * 3 + 2)).trans c2
    simp only [if_true] at hO2
    have hcall := HIH.out x.f2 hd2 _ (vs kk) (b + 2) w0 w2 hB2 (fun k hk2 => HP.out k hk2.1.1) hO2 (by omega) hb2
    obtain ⟨A2, l2, ev2, _⟩ := hO2.reads
    have HR3 := Aside0.mk hr3
    have HK2 := Aside0.mk hK2
    have HYS := Aside0.mk hys
    have HX := Aside0.mk hx
    have HNT := Aside0.mk hnt
    have HBB := Aside0.mk hb
    have HN2 := Aside0.mk hnT
    obtain ⟨n2, hn2⟩ : ∃ n2, x.f2.length = n2 := ⟨_, rfl⟩
    rw [hn2] at ev2
    have HEV := Aside0.mk ev2
    rw [ev2] at x2 hcall
    replace hw1 : wr.setCell ⟨g, kk * 3, none⟩ (.int .i64 b) = w1 := hw1
    clear hr3 hcr hcr1 hcr2 hcb hcb1 hcb2 c0 c1 c2 hO2 hr0 hys hB2 hK2 hnt hnl hA hnT hb hx ev2 HR HB hn2
    clear hyk
    go_wp2_with (first
     | ((with_reducible refine gate_store (t := 3) (p := 16) rfl ?_); refine store_event (t := 3) (p := 16) (v := .int .i64 b) (w1 := w1) ?hg ?ho ?hn ?hr ?_; (case ho => rfl); (case hg => rfl); (case hn => rfl); (case hr => rw [← hw1]; first | (go_simp; done) | (go_simp; rfl)); intro w3 hw; rw [hw]; clear hw w3 x0 f0 hw1)
     | ((with_reducible refine gate_store (t := 3) (p := 23) rfl ?_); refine store_event (t := 3) (p := 23) (v := .int .i64 (b + 1)) (w1 := w2) ?hg ?ho ?hn ?hr ?_; (case ho => rfl); (case hg => rfl); (case hn => rfl); (case hr => rw [← hw2]; first | (go_simp; done) | (go_simp; rfl)); intro w3 hw; rw [hw]; clear hw w3 x1 f1 hw2)
     | (go_at_call 34; refine hcall.mono ?_; rintro e w3 ⟨rfl, hO3, hB3, hK3⟩; clear hcall))
    have n1_ := Aside0.mk (show ∃ ys : Nat → S31, (∀ g', some (⟨g, 0, none⟩ : Addr) = some ⟨g', 0, none⟩ → 0 < xs.length → RW w3 P g' xs.length f vs ys) ∧ ∀ j y, xs[j]? = some y → ys j = if j < kk + 1 then mkT y (a + 2 * nL (xs.take j)) else y from by
     refine ⟨_, fun g' hg' _ => by cases hg'; exact HR3.out.call kk (mkL x.f2 (b + 2)) hK3 (by rw [HEV.out]; exact hO3), fun j y hy => ?_⟩
     by_cases e : j = kk
     ·subst e
      have hxy : x = y := Option.some.inj (HX.out.symm.trans hy)
      subst hxy
      simp only [if_true]
      rw [if_pos (by omega), mkT_eq, ← HBB.out]
     ·simp only [if_neg e]
      rw [HYS.out j y hy]
      by_cases hj : j < kk
      ·rw [if_pos hj, if_pos (by omega)]
      ·rw [if_neg hj, if_neg (by omega)])
    have n2_ := Aside0.mk ((HK.out.then_ HK2.out (fun k hk2 => .inl hk2)).then_ hK3 (fun k hk2 => .inl hk2.1.1))
    have n3_ := Aside0.mk hB3
    have n4_ : b + 2 + 2 * (nL x.f2 : Int) = a + 2 * nL (xs.take (kk + 1)) := by
     have := HNT.out; have := HBB.out; have := HN2.out; omega
    rw [n4_]
    clear hO3 hB3 hK3 HK
    go_roundg (gk - 1)
    case measure => omega
    case rel => exact ⟨kk + 1, rfl, rfl, by omega, by omega, n1_, n3_, n2_⟩
   ·obtain rfl : kk = xs.length := by omega
    obtain ⟨ys, hr0, hys⟩ := HR.out
    have HR2 := Aside0.mk hr0
    have HYS := Aside0.mk hys
    clear hr0 hys HR
    rw [List.take_length]
    go_wp2
    go_ret
    refine ⟨rfl, ?_, HB.out, HK.out⟩
    rcases Nat.eq_zero_or_pos xs.length with hz | hp
    ·obtain rfl := List.eq_nil_of_length_eq_zero hz
     rw [mkL]
     exact .nil _ _ _ _
    ·obtain ⟨g, ea, hPg⟩ := HF.out hp
     subst ea
     refine OT.of_rw (HR2.out g rfl hp) hPg hp hlc hmax _ (mkL_length _ _) (fun j y hy => ?_)
     have hj : j < xs.length := by
      have := (List.getElem?_eq_some_iff.1 hy).1
      rwa [mkL_length] at this
     have h1 := mkL_at xs a j _ (List.getElem?_eq_getElem hj)
     rw [h1] at hy
     cases hy
     rw [HYS.out j _ (List.getElem?_eq_getElem hj), if_pos hj]
def laws_szWord.g (F_ : List (S75) → Int → Option (Int)) (a0_0 : Int) (a0_1 : Int) (l0_2 : List (S75)) (a1 : Int) : Option (Int) := (F_ l0_2 a1).bind fun t108 => (if t108 < 0 then (some (-1)) else (some t108))
mutual
def laws_szWordS.l0 : Nat → List (S75) → Int → Int → Option (Int)
 | 0, _, _, _ => none
 | k + 1, x0, x1, x5 => if x5 < (x0.length : Int) then (if 0 ≤ x5 then ((laws_szWord.g (laws_szWordS.f k) ((rd_T75 x0 x5).f0) ((rd_T75 x0 x5).f1) ((rd_T75 x0 x5).f2) x1).bind fun t110 => (if t110 < 0 then (some (-1)) else (laws_szWordS.l0 k x0 t110 (wrap64 (x5 + 1))))) else (none)) else (some x1)
def laws_szWordS.f : Nat → List (S75) → Int → Option (Int)
 | 0, _, _ => none
 | k + 1, l0, a1 => if (wrap64 (a1 - (l0.length : Int))) < 0 then (some (-1)) else (laws_szWordS.l0 k l0 (wrap64 (a1 - (l0.length : Int))) 0)
end
set_option maxHeartbeats 8000000 in
set_option maxRecDepth 100000 in
theorem laws_szWord.calls_g (k : Nat) (hF_ : ∀ (A0 : Option Addr) (c0 : Nat) (l0 : List (S75)) (a1 : Int) (r : Int) (w : World) (hr0 : Kd.C k75 w A0 l0.length l0) (hc0 : l0.length ≤ c0) (h : laws_szWordS.f k l0 a1 = some r), Calls Try.prog 99 #[.slice A0 l0.length c0, .int .i64 a1] w fun e w' => e = .returned (.int .i64 r) ∧ Below w.heap.size w w') (a0_0 : Int) (a0_1 : Int) (A0_2 : Option Addr) (c0_2 : Nat) (l0_2 : List (S75)) (a1 : Int) (r : Int) (w : World) (hr0_2 : Kd.C k75 w A0_2 l0_2.length l0_2) (hc0_2 : l0_2.length ≤ c0_2) (h : laws_szWord.g (laws_szWordS.f k) a0_0 a0_1 l0_2 a1 = some r) :
  Calls Try.prog 46 #[.agg #[.int .i64 a0_0, .int .i64 a0_1, .slice A0_2 l0_2.length c0_2], .int .i64 a1] w fun e w' => e = .returned (.int .i64 r) ∧ Below w.heap.size w w' := by
 have hu75 := Try.underlying75
 have HR0_2 := Aside0.mk hr0_2
 have HC0_2 := Aside0.mk hc0_2
 clear hr0_2 hc0_2
 have HB := Aside0.mk (Below.refl w.heap.size w)
 have H : ((laws_szWordS.f k l0_2 a1).bind fun t108 => (if t108 < 0 then (some (-1)) else (some t108))) = some r := h
 clear h
 replace H := Option.bind_eq_some_iff.mp H
 obtain ⟨t108, A30, H⟩ := H
 replace H : (if t108 < 0 then (some (-1)) else (some t108)) = some r := H
 have A3 := Aside0.mk A30
 clear A30
 by_cases c4 : t108 < 0
 ·rw [if_pos c4] at H
  have c4b0 : decide (t108 < 0) = true := decide_eq_true c4
  clear c4
  obtain rfl := Option.some.inj H
  go_enter Try.func46, Try.ntmps46
  go_wp2_with (first | ((with_reducible refine gate_dst (N := 2) rfl ?_); refine box_event ?hg (N := 2) ?hd (cs := #[.int .i64 a0_0, .int .i64 a0_1, .slice A0_2 l0_2.length c0_2]) (t := 75) ?hr ?_; (case hd => rfl); (case hg => rfl); (case hr => first | (go_simp; done) | (go_simp; rfl)); intro gb107 hg w5 hbox hb; have n0_ := Aside0.mk (below_step (by repeat (first | (with_reducible first | exact HB.out | apply below_alloc | apply pw_below_drewN | apply below_drew1) | exact HB.out)) hb); have n1_ := Aside0.mk (hbox); have n2_ := Aside0.mk ((by rw [hg]; exact (below_size (by repeat (first | (with_reducible first | exact HB.out | apply below_alloc | apply pw_below_drewN | apply below_drew1) | exact HB.out))) : w.heap.size ≤ gb107)); have n3_ := Aside0.mk ((by rw [hg]; exact (below_size (by repeat (first | (with_reducible first | exact HB.out | apply below_alloc | apply pw_below_drewN | apply below_drew1) | exact HB.out))) : w.heap.size ≤ gb107)); clear HB; have HB := n0_; have BK107 := n1_; have GW107 := n2_; have GE107 := n3_; clear n0_ n1_ n2_ n3_; clear hb hbox hg; have hcz6_0 : w5.cell? ⟨gb107, 0, none⟩ = some (.int .i64 a0_0) := (blk_cell BK107.out 0).trans rfl; have hcz6_1 : w5.cell? ⟨gb107, 1, none⟩ = some (.int .i64 a0_1) := (blk_cell BK107.out 1).trans rfl; have hcz6_2 : w5.cell? ⟨gb107, 2, none⟩ = some (.slice A0_2 l0_2.length c0_2) := (blk_cell BK107.out 2).trans rfl; have hfz6_0 := blk_frozen BK107.out 0; have hfz6_1 := blk_frozen BK107.out 1; have hfz6_2 := blk_frozen BK107.out 2) | ((with_reducible refine gate_callee (f := 99) rfl ?_); refine goesL_ (some 8) rfl rfl Try.func99 (by kernel_rfl) rfl #[.slice A0_2 l0_2.length c0_2, .int .i64 a1] rfl (by (try simp only [List.map_toArray, List.map_cons, List.map_nil]); first | done | rfl | (simp only [List.length_drop, List.length_take]; rfl)) ?_; (with_reducible refine (hF_ _ _ l0_2 a1 t108 _ ?side1 ?side2 A3.out).mono ?_); (case side1 => repeat (first | exact (Kd.C_below HR0_2.out HB.out) | (with_reducible refine Kd.C_alloc ?_ _) | (with_reducible refine Kd.C_drewN ?_ _) | (with_reducible refine Kd.C_drew ?_))); (case side2 => exact HC0_2.out); rintro e w7 ⟨rfl, hb⟩; refine ⟨_, rfl, ?_⟩; have n0_ := Aside0.mk (blk_below (g := gb107) (o := .cells #[.int .i64 a0_0, .int .i64 a0_1, .slice A0_2 l0_2.length c0_2] 75 (0, 0)) (by (with_reducible repeat (first | refine blk_drewN ?_ _ | refine blk_drew ?_ | refine blk_alloc ?_ _)); exact BK107.out) hb); have n1_ := Aside0.mk (below_step (by repeat (first | (with_reducible first | exact HB.out | apply below_alloc | apply pw_below_drewN | apply below_drew1 | refine below_set ?_ GE107.out) | exact HB.out)) hb); clear BK107; clear HB; have BK107 := n0_; have HB := n1_; clear n0_ n1_; (try clear hb); (try clear hb2); (try clear hk); (try clear hi)))
  go_ret
  exact ⟨by first | rfl | (simp [errW_none, errW_some] <;> rfl) | (simp [*, errW_none, errW_some] <;> rfl), by repeat (first | (with_reducible first | exact HB.out | apply below_alloc | apply pw_below_drewN | apply below_drew1 | refine below_set ?_ GE107.out) | exact HB.out)⟩
 ·rw [if_neg c4] at H
  have c4b0 : decide (t108 < 0) = false := decide_eq_false c4
  clear c4
  obtain rfl := Option.some.inj H
  go_enter Try.func46, Try.ntmps46
  go_wp2_with (first | ((with_reducible refine gate_dst (N := 2) rfl ?_); refine box_event ?hg (N := 2) ?hd (cs := #[.int .i64 a0_0, .int .i64 a0_1, .slice A0_2 l0_2.length c0_2]) (t := 75) ?hr ?_; (case hd => rfl); (case hg => rfl); (case hr => first | (go_simp; done) | (go_simp; rfl)); intro gb107 hg w8 hbox hb; have n0_ := Aside0.mk (below_step (by repeat (first | (with_reducible first | exact HB.out | apply below_alloc | apply pw_below_drewN | apply below_drew1) | exact HB.out)) hb); have n1_ := Aside0.mk (hbox); have n2_ := Aside0.mk ((by rw [hg]; exact (below_size (by repeat (first | (with_reducible first | exact HB.out | apply below_alloc | apply pw_below_drewN | apply below_drew1) | exact HB.out))) : w.heap.size ≤ gb107)); have n3_ := Aside0.mk ((by rw [hg]; exact (below_size (by repeat (first | (with_reducible first | exact HB.out | apply below_alloc | apply pw_below_drewN | apply below_drew1) | exact HB.out))) : w.heap.size ≤ gb107)); clear HB; have HB := n0_; have BK107 := n1_; have GW107 := n2_; have GE107 := n3_; clear n0_ n1_ n2_ n3_; clear hb hbox hg; have hcz9_0 : w8.cell? ⟨gb107, 0, none⟩ = some (.int .i64 a0_0) := (blk_cell BK107.out 0).trans rfl; have hcz9_1 : w8.cell? ⟨gb107, 1, none⟩ = some (.int .i64 a0_1) := (blk_cell BK107.out 1).trans rfl; have hcz9_2 : w8.cell? ⟨gb107, 2, none⟩ = some (.slice A0_2 l0_2.length c0_2) := (blk_cell BK107.out 2).trans rfl; have hfz9_0 := blk_frozen BK107.out 0; have hfz9_1 := blk_frozen BK107.out 1; have hfz9_2 := blk_frozen BK107.out 2) | ((with_reducible refine gate_callee (f := 99) rfl ?_); refine goesL_ (some 8) rfl rfl Try.func99 (by kernel_rfl) rfl #[.slice A0_2 l0_2.length c0_2, .int .i64 a1] rfl (by (try simp only [List.map_toArray, List.map_cons, List.map_nil]); first | done | rfl | (simp only [List.length_drop, List.length_take]; rfl)) ?_; (with_reducible refine (hF_ _ _ l0_2 a1 t108 _ ?side1 ?side2 A3.out).mono ?_); (case side1 => repeat (first | exact (Kd.C_below HR0_2.out HB.out) | (with_reducible refine Kd.C_alloc ?_ _) | (with_reducible refine Kd.C_drewN ?_ _) | (with_reducible refine Kd.C_drew ?_))); (case side2 => exact HC0_2.out); rintro e w10 ⟨rfl, hb⟩; refine ⟨_, rfl, ?_⟩; have n0_ := Aside0.mk (blk_below (g := gb107) (o := .cells #[.int .i64 a0_0, .int .i64 a0_1, .slice A0_2 l0_2.length c0_2] 75 (0, 0)) (by (with_reducible repeat (first | refine blk_drewN ?_ _ | refine blk_drew ?_ | refine blk_alloc ?_ _)); exact BK107.out) hb); have n1_ := Aside0.mk (below_step (by repeat (first | (with_reducible first | exact HB.out | apply below_alloc | apply pw_below_drewN | apply below_drew1 | refine below_set ?_ GE107.out) | exact HB.out)) hb); clear BK107; clear HB; have BK107 := n0_; have HB := n1_; clear n0_ n1_; (try clear hb); (try clear hb2); (try clear hk); (try clear hi)))
  go_ret
  exact ⟨by first | rfl | (simp [errW_none, errW_some] <;> rfl) | (simp [*, errW_none, errW_some] <;> rfl), by repeat (first | (with_reducible first | exact HB.out | apply below_alloc | apply pw_below_drewN | apply below_drew1 | refine below_set ?_ GE107.out) | exact HB.out)⟩
set_option maxHeartbeats 8000000 in
set_option maxRecDepth 100000 in
theorem laws_szWordS.calls (k : Nat) : ∀ (A0 : Option Addr) (c0 : Nat) (l0 : List (S75)) (a1 : Int) (r : Int) (w : World) (hr0 : Kd.C k75 w A0 l0.length l0) (hc0 : l0.length ≤ c0) (h : laws_szWordS.f k l0 a1 = some r),
  Calls Try.prog 99 #[.slice A0 l0.length c0, .int .i64 a1] w fun e w' => e = .returned (.int .i64 r) ∧ Below w.heap.size w w' := by
 induction k using Nat.strongRecOn with
 | _ k ih =>
 intro A0 c0 l0 a1 r w hr0 hc0 h
 cases k with
 | zero => exact absurd h (by simp [laws_szWordS.f])
 | succ k =>
 simp only [laws_szWordS.f] at h
 have hu75 := Try.underlying75
 have HR0 := Aside0.mk hr0
 have HC0 := Aside0.mk hc0
 clear hr0 hc0
 have HB := Aside0.mk (Below.refl w.heap.size w)
 have H : (if (wrap64 (a1 - (l0.length : Int))) < 0 then (some (-1)) else (laws_szWordS.l0 k l0 (wrap64 (a1 - (l0.length : Int))) 0)) = some r := h
 clear h
 by_cases c3 : (wrap64 (a1 - (l0.length : Int))) < 0
 ·rw [if_pos c3] at H
  have c3b0 : decide ((wrap64 (a1 - (l0.length : Int))) < 0) = true := decide_eq_true c3
  clear c3
  obtain rfl := Option.some.inj H
  go_enter Try.func99, Try.ntmps99
  go_wp2
  go_ret
  exact ⟨by first | rfl | (simp [errW_none, errW_some] <;> rfl) | (simp [*, errW_none, errW_some] <;> rfl), by repeat (first | (with_reducible first | exact HB.out | apply below_alloc | apply pw_below_drewN | apply below_drew1) | exact HB.out)⟩
 ·rw [if_neg c3] at H
  have c3b0 : decide ((wrap64 (a1 - (l0.length : Int))) < 0) = false := decide_eq_false c3
  clear c3
  have H' := Aside0.mk H
  clear H
  go_enter Try.func99, Try.ntmps99
  go_wp2
  go_loopg [1, 5] k (fun kq v1 v5 w' => ∃ (x1_1 : Int) (x5_1 : Int), v1 = .int .i64 x1_1 ∧ v5 = .int .i64 x5_1 ∧ Aside0 (laws_szWordS.l0 kq l0 x1_1 x5_1 = some r) ∧ Aside0 (kq ≤ k) ∧ Aside0 (Below w.heap.size w w'))
  case atStart => exact ⟨(wrap64 (a1 - (l0.length : Int))), (0), (by first | rfl | (simp; done) | (simp [*]; done)), (by first | rfl | (simp; done) | (simp [*]; done)), H', ⟨Nat.le_refl _⟩, ⟨by repeat (first | (with_reducible first | exact HB.out | apply below_alloc | apply pw_below_drewN | apply below_drew1) | exact HB.out)⟩⟩
  case round =>
   clear H'
   try clear p2
   try clear c3
   try clear c3b0
   obtain ⟨x1_1, x5_1, rfl, rfl, HA, HK1, HB⟩ := hrel
   cases gk with
   | zero => exact absurd HA.out (by simp [laws_szWordS.l0])
   | succ k1 =>
    have H := HA.out
    clear HA
    simp only [laws_szWordS.l0] at H
    by_cases c4 : x5_1 < (l0.length : Int)
    ·rw [if_pos c4] at H
     have c4b0 : decide (x5_1 < (l0.length : Int)) = true := decide_eq_true c4
     clear c4
     by_cases c5 : 0 ≤ x5_1
     ·rw [if_pos c5] at H
      have c5b0 : decide (0 ≤ x5_1) = true := decide_eq_true c5
      clear c5
      replace H := Option.bind_eq_some_iff.mp H
      obtain ⟨t110, A60, H⟩ := H
      replace H : (if t110 < 0 then (some (-1)) else (laws_szWordS.l0 k1 l0 t110 (wrap64 (x5_1 + 1)))) = some r := H
      have A6 := Aside0.mk A60
      clear A60
      by_cases c7 : t110 < 0
      ·rw [if_pos c7] at H
       have c7b0 : decide (t110 < 0) = true := decide_eq_true c7
       clear c7
       obtain rfl := Option.some.inj H
       have p109 : 0 ≤ (x5_1 : Int) := of_decide_eq_true (by first | (with_reducible assumption) | assumption)
       have q109 : x5_1 < (l0.length : Int) := of_decide_eq_true (by first | (with_reducible assumption) | assumption)
       obtain ⟨ad109, A109_2, c109_2, e109, hx109_0, hx109_1, hx109_2, hl109_2, hi109_2⟩ := at_T75 HR0.out x5_1 p109 q109
       cases e109
       replace hx109_0 := (HB.out.cell (World.block_lt_of_cell? w _ hx109_0)).trans hx109_0
       replace hx109_1 := (HB.out.cell (World.block_lt_of_cell? w _ hx109_1)).trans hx109_1
       replace hx109_2 := (HB.out.cell (World.block_lt_of_cell? w _ hx109_2)).trans hx109_2
       have HR109_2 := Aside0.mk hi109_2
       have HC109_2 := Aside0.mk hl109_2
       clear hi109_2 hl109_2
       replace p109 := eq_true p109
       replace q109 := eq_true q109
       go_wp2_with (first | ((with_reducible refine gate_callee (f := 46) rfl ?_); refine goesL_ (some 23) rfl rfl Try.func46 (by kernel_rfl) rfl #[.agg #[.int .i64 ((rd_T75 l0 x5_1).f0), .int .i64 ((rd_T75 l0 x5_1).f1), .slice A109_2 ((rd_T75 l0 x5_1).f2).length c109_2], .int .i64 x1_1] rfl (by (try simp only [List.map_toArray, List.map_cons, List.map_nil]); first | done | rfl | (simp only [List.length_drop, List.length_take]; rfl)) ?_; (with_reducible refine (laws_szWord.calls_g k1 (fun A0 c0 l0 a1 r w hr0 hc0 h => ih k1 (by first | omega | (have := HK1.out; omega) | (have := HJ1.out; omega) | (have := HK1.out; have := HJ1.out; omega) | (have := HK2.out; omega) | (have := HK1.out; have := HK2.out; omega)) A0 c0 l0 a1 r w hr0 hc0 h) ((rd_T75 l0 x5_1).f0) ((rd_T75 l0 x5_1).f1) _ _ ((rd_T75 l0 x5_1).f2) x1_1 t110 _ ?side1 ?side2 A6.out).mono ?_); (case side1 => repeat (first | exact (Kd.C_below HR109_2.out HB.out) | (with_reducible refine Kd.C_alloc ?_ _) | (with_reducible refine Kd.C_drewN ?_ _) | (with_reducible refine Kd.C_drew ?_))); (case side2 => exact HC109_2.out); rintro e w8 ⟨rfl, hb⟩; refine ⟨_, rfl, ?_⟩; have n0_ := Aside0.mk (below_step (by repeat (first | (with_reducible first | exact HB.out | apply below_alloc | apply pw_below_drewN | apply below_drew1) | exact HB.out)) hb); clear HB; have HB := n0_; clear n0_; (try clear hb); (try clear hb2); (try clear hk); (try clear hi)))
       go_ret
       exact ⟨by first | rfl | (simp [errW_none, errW_some] <;> rfl) | (simp [*, errW_none, errW_some] <;> rfl), by repeat (first | (with_reducible first | exact HB.out | apply below_alloc | apply pw_below_drewN | apply below_drew1) | exact HB.out)⟩
      ·rw [if_neg c7] at H
       have c7b0 : decide (t110 < 0) = false := decide_eq_false c7
       clear c7
       have H' := Aside0.mk H
       clear H
       have p109 : 0 ≤ (x5_1 : Int) := of_decide_eq_true (by first | (with_reducible assumption) | assumption)
       have q109 : x5_1 < (l0.length : Int) := of_decide_eq_true (by first | (with_reducible assumption) | assumption)
       obtain ⟨ad109, A109_2, c109_2, e109, hx109_0, hx109_1, hx109_2, hl109_2, hi109_2⟩ := at_T75 HR0.out x5_1 p109 q109
       cases e109
       replace hx109_0 := (HB.out.cell (World.block_lt_of_cell? w _ hx109_0)).trans hx109_0
       replace hx109_1 := (HB.out.cell (World.block_lt_of_cell? w _ hx109_1)).trans hx109_1
       replace hx109_2 := (HB.out.cell (World.block_lt_of_cell? w _ hx109_2)).trans hx109_2
       have HR109_2 := Aside0.mk hi109_2
       have HC109_2 := Aside0.mk hl109_2
       clear hi109_2 hl109_2
       replace p109 := eq_true p109
       replace q109 := eq_true q109
       go_wp2_with (first | ((with_reducible refine gate_callee (f := 46) rfl ?_); refine goesL_ (some 23) rfl rfl Try.func46 (by kernel_rfl) rfl #[.agg #[.int .i64 ((rd_T75 l0 x5_1).f0), .int .i64 ((rd_T75 l0 x5_1).f1), .slice A109_2 ((rd_T75 l0 x5_1).f2).length c109_2], .int .i64 x1_1] rfl (by (try simp only [List.map_toArray, List.map_cons, List.map_nil]); first | done | rfl | (simp only [List.length_drop, List.length_take]; rfl)) ?_; (with_reducible refine (laws_szWord.calls_g k1 (fun A0 c0 l0 a1 r w hr0 hc0 h => ih k1 (by first | omega | (have := HK1.out; omega) | (have := HJ1.out; omega) | (have := HK1.out; have := HJ1.out; omega) | (have := HK2.out; omega) | (have := HK1.out; have := HK2.out; omega)) A0 c0 l0 a1 r w hr0 hc0 h) ((rd_T75 l0 x5_1).f0) ((rd_T75 l0 x5_1).f1) _ _ ((rd_T75 l0 x5_1).f2) x1_1 t110 _ ?side1 ?side2 A6.out).mono ?_); (case side1 => repeat (first | exact (Kd.C_below HR109_2.out HB.out) | (with_reducible refine Kd.C_alloc ?_ _) | (with_reducible refine Kd.C_drewN ?_ _) | (with_reducible refine Kd.C_drew ?_))); (case side2 => exact HC109_2.out); rintro e w9 ⟨rfl, hb⟩; refine ⟨_, rfl, ?_⟩; have n0_ := Aside0.mk (below_step (by repeat (first | (with_reducible first | exact HB.out | apply below_alloc | apply pw_below_drewN | apply below_drew1) | exact HB.out)) hb); clear HB; have HB := n0_; clear n0_; (try clear hb); (try clear hb2); (try clear hk); (try clear hi)))
       go_roundg k1
       case measure => have := HK1.out; omega
       case rel => exact ⟨(t110), (wrap64 (x5_1 + 1)), (by first | rfl | (simp; done) | (simp [*]; done)), (by first | rfl | (simp; done) | (simp [*]; done)), H', ⟨by have := HK1.out; omega⟩, ⟨by repeat (first | (with_reducible first | exact HB.out | apply below_alloc | apply pw_below_drewN | apply below_drew1) | exact HB.out)⟩⟩
     ·rw [if_neg c5] at H
      exact absurd H (by simp)
    ·rw [if_neg c4] at H
     have c4b0 : decide (x5_1 < (l0.length : Int)) = false := decide_eq_false c4
     clear c4
     obtain rfl := Option.some.inj H
     go_wp2
     go_ret
     exact ⟨by first | rfl | (simp [errW_none, errW_some] <;> rfl) | (simp [*, errW_none, errW_some] <;> rfl), by repeat (first | (with_reducible first | exact HB.out | apply below_alloc | apply pw_below_drewN | apply below_drew1) | exact HB.out)⟩
def laws_szWord.f (k : Nat) (a0_0 : Int) (a0_1 : Int) (l0_2 : List (S75)) (a1 : Int) : Option (Int) := laws_szWord.g (laws_szWordS.f k) a0_0 a0_1 l0_2 a1
theorem laws_szWord.calls (k : Nat) (a0_0 : Int) (a0_1 : Int) (A0_2 : Option Addr) (c0_2 : Nat) (l0_2 : List (S75)) (a1 : Int) (r : Int) (w : World) (hr0_2 : Kd.C k75 w A0_2 l0_2.length l0_2) (hc0_2 : l0_2.length ≤ c0_2) (h : laws_szWord.f k a0_0 a0_1 l0_2 a1 = some r) :
  Calls Try.prog 46 #[.agg #[.int .i64 a0_0, .int .i64 a0_1, .slice A0_2 l0_2.length c0_2], .int .i64 a1] w fun e w' => e = .returned (.int .i64 r) ∧ Below w.heap.size w w' :=
 laws_szWord.calls_g k (laws_szWordS.calls k) a0_0 a0_1 A0_2 c0_2 l0_2 a1 r w hr0_2 hc0_2 h
set_option maxHeartbeats 4000000 in
set_option maxRecDepth 100000 in
/-- slices.IndexFunc over a row of structs, with a predicate that may change what the invariant allows. -/
theorem idx31 (I : Nat → World → Prop) (p : Nat → Bool) (l : List (S31)) (g : Nat) (lb : Array Value) (eg : ∀ args w, (callFunc g args).run Try.prog w = .ok (.enter g args) w) (A : Option Addr) (c : Nat) (w : World) (hn : l.length ≤ 9223372036854775807) (h0 : I 0 w)
  (w0 : World) (hd : Kd.C k31 w0 A l.length l) (hB : ∀ i W, I i W → Below w0.heap.size w0 W)
  (hp : ∀ i, i < l.length → (∀ j, j < i → p j = false) → ∀ W, I i W → ∀ A2 c2, Kd.C k31 w0 A2 (rd_T31 l (i : Int)).f2.length (rd_T31 l (i : Int)).f2 → (rd_T31 l (i : Int)).f2.length ≤ c2 →
   Calls Try.prog g (#[.agg #[.int .i64 (rd_T31 l (i : Int)).f0, .int .i64 (rd_T31 l (i : Int)).f1, .slice A2 (rd_T31 l (i : Int)).f2.length c2]] ++ lb) W fun e W' => e = .returned (.bool (p i)) ∧ I (i + 1) W') :
  Calls Try.prog 139 #[.slice A l.length c, .func (.func g) #[] lb] w fun e w' => ∃ r : Int, e = .returned (.int .i64 r) ∧ ∃ m, m ≤ l.length ∧ I m w' ∧ ((r = -1 ∧ m = l.length ∧ ∀ j, j < m → p j = false) ∨ (0 ≤ r ∧ ∃ i, m = i + 1 ∧ p i = true ∧ ∀ j, j < i → p j = false)) := by
 have HP := Aside0.mk hp
 have HC := Aside0.mk hB
 have HD := Aside0.mk hd
 have H0 := Aside0.mk h0
 clear hp hB hd h0
 go_enter Try.func139, Try.ntmps139
 go_wp2
 go_loopg [5, 8] l.length (fun gg _ s8 wr => ∃ kk : Nat, kk ≤ l.length ∧ l.length - kk ≤ gg ∧ s8 = .int .i64 kk ∧ Aside0 (I kk wr) ∧ Aside0 (∀ j, j < kk → p j = false))
 case atStart => exact ⟨0, Nat.zero_le _, by omega, rfl, H0, ⟨fun j hj => absurd hj (Nat.not_lt_zero _)⟩⟩
 case round =>
  obtain ⟨kk, hkk, hg, rfl, HI, HN⟩ := hrel
  by_cases hlt : kk < l.length
  ·have hltz : (kk : Int) < (l.length : Int) := by omega
   obtain ⟨ad, A2, c2, ea, hx0, hx1, hx2, hl2, hC2⟩ := at_T31 HD.out (kk : Int) (by omega) (by omega)
   cases ea
   rw [Int.toNat_natCast] at hx0 hx1 hx2
   replace hx0 := ((HC.out kk wr HI.out).cell (World.block_lt_of_cell? w0 _ hx0)).trans hx0
   replace hx1 := ((HC.out kk wr HI.out).cell (World.block_lt_of_cell? w0 _ hx1)).trans hx1
   replace hx2 := ((HC.out kk wr HI.out).cell (World.block_lt_of_cell? w0 _ hx2)).trans hx2
   have hcall := HP.out kk hlt HN.out wr HI.out A2 c2 hC2 hl2
   have HP2 := Aside0.mk hC2
   clear hC2 hl2
   cases hq : p kk with
   | true =>
    rw [hq] at hcall
    have HQ := Aside0.mk hq
    clear hq
    go_wp2_with (go_at_fn g; refine hcall.mono ?_; rintro e w' ⟨rfl, hb⟩)
    go_ret
    exact ⟨kk, rfl, kk + 1, by omega, hb, .inr ⟨by omega, kk, rfl, HQ.out, HN.out⟩⟩
   | false =>
    rw [hq] at hcall
    have HQ := Aside0.mk hq
    clear hq
    go_wp2_with (go_at_fn g; refine hcall.mono ?_; rintro e w' ⟨rfl, hb⟩)
    go_roundg (l.length - (kk + 1))
    case measure => omega
    case rel =>
     refine ⟨kk + 1, by omega, by omega, by go_num, ⟨hb⟩, ⟨fun j hj => ?_⟩⟩
     by_cases e : j = kk
     ·subst e
      exact HQ.out
     ·exact HN.out j (by omega)
  ·have hltz : ¬ (kk : Int) < (l.length : Int) := by omega
   have : kk = l.length := by omega
   subst this
   go_wp2
   go_ret
   exact ⟨-1, rfl, l.length, Nat.le_refl _, HI.out, .inl ⟨rfl, rfl, HN.out⟩⟩
set_option maxHeartbeats 4000000 in
theorem any31 (I : Nat → World → Prop) (p : Nat → Bool) (l : List (S31)) (g : Nat) (lb : Array Value) (eg : ∀ args w, (callFunc g args).run Try.prog w = .ok (.enter g args) w) (A : Option Addr) (c : Nat) (w : World) (hn : l.length ≤ 9223372036854775807) (h0 : I 0 w)
  (w0 : World) (hd : Kd.C k31 w0 A l.length l) (hB : ∀ i W, I i W → Below w0.heap.size w0 W)
  (hp : ∀ i, i < l.length → (∀ j, j < i → p j = false) → ∀ W, I i W → ∀ A2 c2, Kd.C k31 w0 A2 (rd_T31 l (i : Int)).f2.length (rd_T31 l (i : Int)).f2 → (rd_T31 l (i : Int)).f2.length ≤ c2 →
   Calls Try.prog g (#[.agg #[.int .i64 (rd_T31 l (i : Int)).f0, .int .i64 (rd_T31 l (i : Int)).f1, .slice A2 (rd_T31 l (i : Int)).f2.length c2]] ++ lb) W fun e W' => e = .returned (.bool (p i)) ∧ I (i + 1) W') :
  Calls Try.prog 120 #[.slice A l.length c, .func (.func g) #[] lb] w fun e w' => ∃ b : Bool, e = .returned (.bool b) ∧ ∃ m, m ≤ l.length ∧ I m w' ∧ ((b = false ∧ m = l.length ∧ ∀ j, j < m → p j = false) ∨ (b = true ∧ ∃ i, m = i + 1 ∧ p i = true ∧ ∀ j, j < i → p j = false)) := by
 have hcall := idx31 I p l g lb eg A c w hn h0 w0 hd hB hp
 clear hp hB hd h0
 go_enter Try.func120, Try.ntmps120
 go_wp2_with (go_at_call 139; refine hcall.mono ?_; rintro e w' ⟨r, rfl, hr⟩)
 go_ret
 obtain ⟨m, hm, hI, h⟩ := hr
 refine ⟨_, rfl, m, hm, hI, ?_⟩
 rcases h with ⟨rfl, h⟩ | ⟨h0, h⟩
 ·exact .inl ⟨by first | rfl | simp, h⟩
 ·exact .inr ⟨by first | exact decide_eq_true h0 | (simp; omega), h⟩
end Go.Proofs.Ytcmkkoggdcjceaa.PFnExactWordBits
end
section
namespace Go.Proofs.Ytcmkkoggdcjceaa.PFnExactWordBits
open Go.RowKit Go.Proofs.YtcmkkoggdcjceaaW.PrintWords Go.Proofs.YtcmkkoggdcjceaaW.PrintLast Go.Proofs.YtcmkkoggdcjceaaW.PrintMore
attribute [local go_sem] max2_int min2_int max_two min_two max_three min_three max_four min_four   -- for this text's walks alone
set_option linter.unusedVariables false
set_option linter.unusedSimpArgs false
structure CE (g : Nat) (c : Int) (w w' : World) : Prop where
 os : w'.os = w.os
 tape : w'.tape = w.tape
 output : w'.output = w.output
 size : w.heap.size ≤ w'.heap.size
 block : ∀ k, k < w.heap.size → k ≠ g → w'.heap[k]? = w.heap[k]?
 cnt : w'.heap[g]? = some (.cells #[.int .i64 c] 3 (0, 0))
theorem CE.refl {g : Nat} {c : Int} {w : World} (h : w.heap[g]? = some (.cells #[.int .i64 c] 3 (0, 0))) : CE g c w w := ⟨rfl, rfl, rfl, Nat.le_refl _, fun _ _ _ => rfl, h⟩
theorem CE.trans {g : Nat} {c c1 : Int} {w w1 w2 : World} (h : CE g c w w1) (k : CE g c1 w1 w2) : CE g c1 w w2 :=
 ⟨k.os.trans h.os, k.tape.trans h.tape, k.output.trans h.output, Nat.le_trans h.size k.size, fun i hi hg => (k.block i (Nat.lt_of_lt_of_le hi h.size) hg).trans (h.block i hi hg), k.cnt⟩
theorem CE.lt {g : Nat} {c : Int} {w w' : World} (h : CE g c w w') : g < w'.heap.size := (Array.getElem?_eq_some_iff.1 h.cnt).1
theorem CE.below {g : Nat} {c : Int} {w w1 w2 : World} (h : CE g c w w1) (k : Below w1.heap.size w1 w2) : CE g c w w2 :=
 ⟨k.os.trans h.os, k.tape.trans h.tape, k.output.trans h.output, Nat.le_trans h.size k.size, fun i hi hg => (k.block i (Nat.lt_of_lt_of_le hi h.size)).trans (h.block i hi hg), (k.block g h.lt).trans h.cnt⟩
theorem CE.cell {g : Nat} {c : Int} {w w' : World} (h : CE g c w w') {k o : Nat} (hk : k < w.heap.size) (hg : k ≠ g) : w'.cell? ⟨k, o, none⟩ = w.cell? ⟨k, o, none⟩ := World.cell?_of_block (w := w) (h.block k hk hg)
theorem CE.val {g : Nat} {c : Int} {w w' : World} (h : CE g c w w') : w'.cell? ⟨g, 0, none⟩ = some (.int .i64 c) := (blk_cell h.cnt 0).trans rfl
theorem CE.set {g : Nat} {c c1 : Int} {w w' : World} (h : CE g c w w') : CE g c1 w (w'.setCell ⟨g, 0, none⟩ (.int .i64 c1)) :=
 ⟨h.os, h.tape, h.output, by simpa [World.setCell] using h.size, fun i hi hg => (Below.heap_setCell w' ⟨g, 0, none⟩ _ i hg).trans (h.block i hi hg), by
  have := h.cnt
  simp only [World.setCell, Array.getElem?_modify, if_true, this]
  rfl⟩
theorem within_anyE (a lo hi : Int) (w : World) : Calls Try.prog 79 #[.int .i64 a, .int .i64 lo, .int .i64 hi] w fun e w' => e = .returned (.bool (decide (lo ≤ a) && decide (a ≤ hi))) ∧ w' = w := by
 by_cases h : lo ≤ a
 ·rw [decide_eq_true h, Bool.true_and]
  go_enter Try.func79, Try.ntmps79
  go_wp2
  go_ret
  exact ⟨rfl, rfl⟩
 ·rw [decide_eq_false h, Bool.false_and]
  go_enter Try.func79, Try.ntmps79
  go_wp2
  go_ret
  exact ⟨rfl, rfl⟩
def kidsM (kind : Int) : Int := if kind = 1 then 0 else if kind = 2 then 0 else if kind = 3 then 1 else if kind = 4 then 2 else if kind = 5 then 2 else if kind = 6 then 2 else if kind = 7 then 3 else -1
def numB (kind n : Int) : Bool := if kind = 1 then decide (0 ≤ n) && decide (n ≤ 11) else if kind = 2 then decide (0 ≤ n) && decide (n ≤ 1) else n == 0
set_option maxHeartbeats 4000000 in
theorem kidsOf_is (kind : Int) (w : World) : Calls Try.prog 136 #[.int .i64 kind] w fun e w' => e = .returned (.int .i64 (kidsM kind)) ∧ w' = w := by
 unfold kidsM
 by_cases h1 : kind = 1
 ·subst h1
  rw [if_pos rfl]
  go_enter Try.func136, Try.ntmps136
  go_wp2
  go_ret
  exact ⟨rfl, rfl⟩
 by_cases h2 : kind = 2
 ·subst h2
  rw [if_neg (by decide), if_pos rfl]
  go_enter Try.func136, Try.ntmps136
  go_wp2
  go_ret
  exact ⟨rfl, rfl⟩
 by_cases h3 : kind = 3
 ·subst h3
  rw [if_neg (by decide), if_neg (by decide), if_pos rfl]
  go_enter Try.func136, Try.ntmps136
  go_wp2
  go_ret
  exact ⟨rfl, rfl⟩
 by_cases h4 : kind = 4
 ·subst h4
  rw [if_neg (by decide), if_neg (by decide), if_neg (by decide), if_pos rfl]
  go_enter Try.func136, Try.ntmps136
  go_wp2
  go_ret
  exact ⟨rfl, rfl⟩
 by_cases h5 : kind = 5
 ·subst h5
  rw [if_neg (by decide), if_neg (by decide), if_neg (by decide), if_neg (by decide), if_pos rfl]
  go_enter Try.func136, Try.ntmps136
  go_wp2
  go_ret
  exact ⟨rfl, rfl⟩
 by_cases h6 : kind = 6
 ·subst h6
  rw [if_neg (by decide), if_neg (by decide), if_neg (by decide), if_neg (by decide), if_neg (by decide), if_pos rfl]
  go_enter Try.func136, Try.ntmps136
  go_wp2
  go_ret
  exact ⟨rfl, rfl⟩
 by_cases h7 : kind = 7
 ·subst h7
  rw [if_neg (by decide), if_neg (by decide), if_neg (by decide), if_neg (by decide), if_neg (by decide), if_neg (by decide), if_pos rfl]
  go_enter Try.func136, Try.ntmps136
  go_wp2
  go_ret
  exact ⟨rfl, rfl⟩
 rw [if_neg h1, if_neg h2, if_neg h3, if_neg h4, if_neg h5, if_neg h6, if_neg h7]
 go_enter Try.func136, Try.ntmps136
 go_wp2
 go_ret
 exact ⟨rfl, rfl⟩
mutual
/-- whether an expression is right at a depth, and the count of nodes behind it -/
def countE : S31 → Int → Int → Bool × Int
 | ⟨kind, n, kids⟩, deep, c => if decide (wrap64 (c + 1) > 400) || (decide (deep > 40) || (!((kids.length : Int) == kidsM kind) || !(numB kind n))) then (false, wrap64 (c + 1)) else countEs kids (wrap64 (deep + 1)) (wrap64 (c + 1))
def countEs : List (S31) → Int → Int → Bool × Int
 | [], _, c => (true, c)
 | x :: r, deep, c => match countE x deep c with
  | (true, c1) => countEs r deep c1
  | (false, c1) => (false, c1)
end
def stE (deep : Int) (l : List (S31)) (c : Int) : Nat → Int
 | 0 => c
 | i + 1 => (countE (rd_T31 l (i : Int)) deep (stE deep l c i)).2
theorem countEs_all (deep : Int) (c : Int) (l : List (S31)) (h : ∀ j, j < l.length → (countE (rd_T31 l (j : Int)) deep (stE deep l c j)).1 = true) : countEs l deep c = (true, stE deep l c l.length) := by
 have key : ∀ d i, i + d = l.length → countEs (l.drop i) deep (stE deep l c i) = (true, stE deep l c l.length) := by
  intro d
  induction d with
  | zero =>
   intro i hi
   obtain rfl : i = l.length := by omega
   rw [List.drop_length, countEs]
  | succ d ih =>
   intro i hi
   have hil : i < l.length := by omega
   have hr : rd_T31 l (i : Int) = l[i] := by unfold rd_T31; simp [List.getD, hil]
   rw [List.drop_eq_getElem_cons hil, countEs]
   have h1 := h i hil
   rw [hr] at h1
   have h2 := ih (i + 1) (by omega)
   rw [stE, hr] at h2
   generalize countE l[i] deep (stE deep l c i) = q at h1 h2
   obtain ⟨q1, q2⟩ := q
   subst h1
   exact h2
 have := key l.length 0 (by omega)
 rw [List.drop_zero, stE] at this
 exact this
theorem countEs_hit (deep : Int) (c : Int) (l : List (S31)) (i : Nat) (hi : i < l.length) (hf : (countE (rd_T31 l (i : Int)) deep (stE deep l c i)).1 = false) (h : ∀ j, j < i → (countE (rd_T31 l (j : Int)) deep (stE deep l c j)).1 = true) : countEs l deep c = (false, stE deep l c (i + 1)) := by
 have key : ∀ d k, k + d = i → countEs (l.drop k) deep (stE deep l c k) = (false, stE deep l c (i + 1)) := by
  intro d
  induction d with
  | zero =>
   intro k hk
   obtain rfl : k = i := by omega
   have hr : rd_T31 l (k : Int) = l[k] := by unfold rd_T31; simp [List.getD, hi]
   rw [List.drop_eq_getElem_cons hi, countEs, stE]
   rw [hr] at hf ⊢
   generalize countE l[k] deep (stE deep l c k) = q at hf ⊢
   obtain ⟨q1, q2⟩ := q
   subst hf
   rfl
  | succ d ih =>
   intro k hk
   have hkl : k < l.length := by omega
   have hr : rd_T31 l (k : Int) = l[k] := by unfold rd_T31; simp [List.getD, hkl]
   rw [List.drop_eq_getElem_cons hkl, countEs]
   have h1 := h k (by omega)
   rw [hr] at h1
   have h2 := ih (k + 1) (by omega)
   rw [stE, hr] at h2
   generalize countE l[k] deep (stE deep l c k) = q at h1 h2
   obtain ⟨q1, q2⟩ := q
   subst h1
   exact h2
 have := key i 0 (by omega)
 rw [List.drop_zero, stE] at this
 exact this
def SaidE (deep : Int) (x : S31) : Prop := ∀ (c : Int) (A2 : Option Addr) (c2 : Nat) (g : Nat) (w0 w : World), Kd.C k31 w0 A2 x.f2.length x.f2 → x.f2.length ≤ c2 → Below w0.heap.size w0 w → w0.heap.size ≤ g → w.heap[g]? = some (.cells #[.int .i64 c] 3 (0, 0)) →
 Calls Try.prog 113 #[.agg #[.int .i64 x.f0, .int .i64 x.f1, .slice A2 x.f2.length c2], .int .i64 deep, .pointer (some ⟨g, 0, none⟩)] w fun e w' => e = .returned (.bool (countE x deep c).1) ∧ CE g (countE x deep c).2 w w'
theorem CE.base {g : Nat} {c : Int} {w0 w w' : World} (h : CE g c w w') (hb : Below w0.heap.size w0 w) (hg : w0.heap.size ≤ g) : Below w0.heap.size w0 w' :=
 ⟨h.os.trans hb.os, h.tape.trans hb.tape, h.output.trans hb.output, Nat.le_trans hb.size h.size, fun k hk => (h.block k (Nat.lt_of_lt_of_le hk hb.size) (by omega)).trans (hb.block k hk)⟩
set_option maxHeartbeats 4000000 in
set_option maxRecDepth 100000 in
theorem countE_fn (dp deep : Int) (hdp : wrap64 (dp + 1) = deep) (x : S31) (hx : SaidE deep x) (c : Int) (A2 : Option Addr) (c2 : Nat) (g B : Nat) (w0 w : World) (hr : Kd.C k31 w0 A2 x.f2.length x.f2) (hc : x.f2.length ≤ c2) (hb : Below w0.heap.size w0 w) (hg : w0.heap.size ≤ g) (hcnt : w.heap[g]? = some (.cells #[.int .i64 c] 3 (0, 0)))
  (h1 : w.cell? ⟨B, 0, none⟩ = some (.int .i64 dp)) (h2 : w.cell? ⟨B + 1, 0, none⟩ = some (.pointer (some ⟨g, 0, none⟩))) :
  Calls Try.prog 137 #[.agg #[.int .i64 x.f0, .int .i64 x.f1, .slice A2 x.f2.length c2], .pointer (some ⟨B, 0, none⟩), .pointer (some ⟨B + 1, 0, none⟩)] w fun e w' => e = .returned (.bool (!(countE x deep c).1)) ∧ CE g (countE x deep c).2 w w' := by
 subst hdp
 have hcall := hx c A2 c2 g w0 (w.alloc (.cells #[.int .i64 x.f0, .int .i64 x.f1, .slice A2 x.f2.length c2] 31)) hr hc (hb.alloc hb.size _) hg ((((Below.refl w.heap.size w).alloc (Nat.le_refl _) _).block g (Array.getElem?_eq_some_iff.1 hcnt).1).trans hcnt)
 have hB : Below w.heap.size w (w.alloc (.cells #[.int .i64 x.f0, .int .i64 x.f1, .slice A2 x.f2.length c2] 31)) := (Below.refl _ _).alloc (Nat.le_refl _) _
 have h1' := (hB.cell (World.block_lt_of_cell? w _ h1)).trans h1
 have h2' := (hB.cell (World.block_lt_of_cell? w _ h2)).trans h2
 have H := Aside0.mk hcnt
 have hu := Try.underlying31
 clear hr hc hb hg h1 h2 hcnt hx
 generalize countE x (wrap64 (dp + 1)) c = q at hcall ⊢
 obtain ⟨q1, q2⟩ := q
 simp only at hcall ⊢
 go_enter Try.func137, Try.ntmps137
 go_wp2_with (go_at_call 113; refine hcall.mono ?_; rintro e w' ⟨rfl, hb⟩)
 go_ret
 exact ⟨rfl, ((CE.refl H.out).below hB).trans hb⟩
theorem below3E (w : World) (a b c : Obj) : Below w.heap.size w (((w.alloc a).alloc b).alloc c) := by
 have h1 := (Below.refl w.heap.size w).alloc (Nat.le_refl _) a
 have h2 := h1.alloc h1.size b
 exact h2.alloc h2.size c
theorem countE_bad {deep kind n c : Int} {kids : List (S31)} (hb : (decide (wrap64 (c + 1) > 400) || (decide (deep > 40) || (!((kids.length : Int) == kidsM kind) || !(numB kind n)))) = true) : countE ⟨kind, n, kids⟩ deep c = (false, wrap64 (c + 1)) := by
 rw [countE]
 simp only [hb, if_true]
theorem countE_good {deep kind n c : Int} {kids : List (S31)} (h1 : ¬ wrap64 (c + 1) > 400) (h3 : ¬ deep > 40) (h2 : (kids.length : Int) = kidsM kind) (h4 : numB kind n = true) : countE ⟨kind, n, kids⟩ deep c = countEs kids (wrap64 (deep + 1)) (wrap64 (c + 1)) := by
 rw [countE]
 simp [h1, h2, h3, h4]
theorem sz_kidE {kind n : Int} {kids : List (S31)} {d : Nat} (h : SizeOf.sizeOf (⟨kind, n, kids⟩ : S31) < d + 1) (i : Nat) (hi : i < kids.length) : SizeOf.sizeOf (rd_T31 kids (i : Int)) < d := by
 have hr : rd_T31 kids (i : Int) = kids[i] := by unfold rd_T31; simp [List.getD, hi]
 rw [hr]
 have := List.sizeOf_lt_of_mem (List.getElem_mem hi)
 simp at h
 omega
theorem CE.kid {g : Nat} {c c1 : Int} {w0 w W3 W' : World} (hb : Below w0.heap.size w0 w) (hg : w0.heap.size ≤ g) (h3 : CE g c1 w W3) (h : CE g c W3 W') : Below w0.heap.size w0 W' := (h3.trans h).base hb hg
theorem countE_kids (dp c1 : Int) (kids : List (S31)) (A2 : Option Addr) (c2 g B : Nat) (w0 w W3 : World) (hd : Kd.C k31 w0 A2 kids.length kids) (hb : Below w0.heap.size w0 w) (hg : w0.heap.size ≤ g) (hgB : g < B) (h3 : CE g c1 w W3)
  (hYb : W3.cell? ⟨B + 1, 0, none⟩ = some (.int .i64 dp)) (hYc : W3.cell? ⟨B + 1 + 1, 0, none⟩ = some (.pointer (some ⟨g, 0, none⟩))) (hn : kids.length ≤ 9223372036854775807) (hk : ∀ i : Nat, i < kids.length → SaidE (wrap64 (dp + 1)) (rd_T31 kids (i : Int))) :
  Calls Try.prog 120 #[.slice A2 kids.length c2, .func (.func 137) #[] #[.pointer (some ⟨B + 1, 0, none⟩), .pointer (some ⟨B + 1 + 1, 0, none⟩)]] W3 fun e w' => e = .returned (.bool (!(countEs kids (wrap64 (dp + 1)) c1).1)) ∧ CE g (countEs kids (wrap64 (dp + 1)) c1).2 W3 w' := by
 refine (any31 (fun i W' => CE g (stE (wrap64 (dp + 1)) kids c1 i) W3 W') (fun i => !(countE (rd_T31 kids (i : Int)) (wrap64 (dp + 1)) (stE (wrap64 (dp + 1)) kids c1 i)).1) kids 137 #[.pointer (some ⟨B + 1, 0, none⟩), .pointer (some ⟨B + 1 + 1, 0, none⟩)] (enters_of Try.func137 (by kernel_rfl) rfl) A2 c2 W3 hn (CE.refl h3.cnt) w0 hd (fun i W' h => CE.kid hb hg h3 h) ?_).mono ?_
 ·intro i hi _ W' hW A' c' hd' hc'
  have e1 := (hW.cell (World.block_lt_of_cell? W3 _ hYb) (show B + 1 ≠ g by omega)).trans hYb
  have e2 := (hW.cell (World.block_lt_of_cell? W3 _ hYc) (show B + 1 + 1 ≠ g by omega)).trans hYc
  refine (countE_fn dp _ rfl _ (hk i hi) (stE (wrap64 (dp + 1)) kids c1 i) A' c' g (B + 1) w0 W' hd' hc' (CE.kid hb hg h3 hW) hg hW.cnt e1 e2).mono ?_
  rintro e w' ⟨rfl, h⟩
  exact ⟨rfl, hW.trans h⟩
 ·rintro e w' ⟨b, rfl, m, hm, hI, h⟩
  rcases h with ⟨rfl, rfl, h⟩ | ⟨rfl, i, rfl, h1, h⟩
  ·have := countEs_all _ c1 kids (fun j hj => by simpa using h j hj)
   rw [this]
   exact ⟨rfl, hI⟩
  ·have := countEs_hit _ c1 kids i (by omega) (by simpa using h1) (fun j hj => by simpa using h j hj)
   rw [this]
   exact ⟨rfl, hI⟩
set_option maxHeartbeats 4000000 in
set_option maxRecDepth 100000 in
theorem countE_calls : ∀ (d : Nat) (x : S31), SizeOf.sizeOf x < d → ∀ deep, SaidE deep x := by
 intro d
 induction d with
 | zero => exact fun x h => absurd h (Nat.not_lt_zero _)
 | succ d ih =>
  intro x hxd deep c A2 c2 g w0 w hr hc hb hg hcnt
  obtain ⟨kind, n, kids⟩ := x
  have hgs : g < w.heap.size := (Array.getElem?_eq_some_iff.1 hcnt).1
  have hv0 : w.cell? ⟨g, 0, none⟩ = some (.int .i64 c) := (blk_cell hcnt 0).trans rfl
  have hf0 : w.frozen? ⟨g, 0, none⟩ = false := blk_frozen hcnt 0
  have hB3 : Below w.heap.size w (((w.alloc (.cells #[.int .i64 kind, .int .i64 n, .slice A2 kids.length c2] 31)).alloc (.cells #[.int .i64 deep] 3)).alloc (.cells #[.pointer (some ⟨g, 0, none⟩)] 131)) := below3E _ _ _ _
  have hgA := (hB3.cell (p := ⟨g, 0, none⟩) hgs).trans hv0
  have hgF := (World.frozen?_of_block (a := ⟨g, 0, none⟩) (hB3.block g hgs)).trans hf0
  have hn0 : g ≠ w.heap.size := by omega
  have hn1 : g ≠ w.heap.size + 1 := by omega
  have hn2 : g ≠ w.heap.size + 1 + 1 := by omega
  obtain ⟨W, hW, hX0, hX1, hX2, hXb, hXc, hXg, hC3⟩ : ∃ W, ((((w.alloc (.cells #[.int .i64 kind, .int .i64 n, .slice A2 kids.length c2] 31)).alloc (.cells #[.int .i64 deep] 3)).alloc (.cells #[.pointer (some ⟨g, 0, none⟩)] 131)).setCell ⟨g, 0, none⟩ (.int .i64 (wrap64 (c + 1)))) = W ∧ W.cell? ⟨w.heap.size, 0, none⟩ = some (.int .i64 kind) ∧ W.cell? ⟨w.heap.size, 1, none⟩ = some (.int .i64 n) ∧ W.cell? ⟨w.heap.size, 2, none⟩ = some (.slice A2 kids.length c2) ∧ W.cell? ⟨w.heap.size + 1, 0, none⟩ = some (.int .i64 deep) ∧ W.cell? ⟨w.heap.size + 1 + 1, 0, none⟩ = some (.pointer (some ⟨g, 0, none⟩)) ∧ W.cell? ⟨g, 0, none⟩ = some (.int .i64 (wrap64 (c + 1))) ∧ CE g (wrap64 (c + 1)) w W := by
   have h3 := (((CE.refl hcnt).below hB3).set (c1 := wrap64 (c + 1)))
   refine ⟨_, rfl, ?_, ?_, ?_, ?_, ?_, h3.val, h3⟩
   ·go_simp
   ·go_simp
   ·go_simp
   ·go_simp
   ·go_simp
  have hWs := Aside0.mk hW
  have hC3' := Aside0.mk hC3
  have hkids : ∀ i : Nat, i < kids.length → SaidE (wrap64 (deep + 1)) (rd_T31 kids (i : Int)) := fun i hi => ih _ (sz_kidE hxd i hi) _
  have hlen : kids.length ≤ 9223372036854775807 := Kd.C_max hr
  have H := Aside0.mk (And.intro hr (And.intro hb (And.intro hg (And.intro hgs (And.intro hlen hkids)))))
  have hK := kidsOf_is kind
  clear hr hc hb hg hcnt hxd ih hB3 hv0 hf0 hC3 hW hkids hlen
  have HX := Aside0.mk (And.intro hX0 (And.intro hX1 (And.intro hX2 (And.intro hXb (And.intro hXc hXg)))))
  clear hX0 hX1 hX2 hXb hXc hXg
  go_enter Try.func113, Try.ntmps113
  go_upto_region 2 with fail
  rw [hWs.out]
  obtain ⟨hX0, hX1, hX2, hXb, hXc, hXg⟩ := HX.out
  clear hWs HX hgA hgF hgs hn0 hn1 hn2
  generalize w.heap.size = B at *
  by_cases k1 : kind = 1
  ·subst k1
   go_upto_region 8 with (go_at_call 79; refine (within_anyE _ _ _ _).mono ?_; rintro e w' ⟨rfl, hq⟩; have hq2 := hq.symm; subst hq2; clear hq)
   have hnum : numB 1 n = (decide (0 ≤ n) && decide (n ≤ 11)) := by rw [numB, if_pos rfl]
   generalize (decide (0 ≤ n) && decide (n ≤ 11)) = okb at hnum ⊢
   have HN := Aside0.mk hnum
   clear hnum
   generalize hkm : kidsM 1 = km at hK
   have HM := Aside0.mk hkm
   clear hkm
   by_cases t1 : wrap64 (c + 1) > 400
   ·go_quiet ((go_at_call 136; exact Calls.quiet_of_same (hK _)))
    have hC5 := CE.below hC3'.out (w2 := W.drewN nq) ⟨rfl, rfl, rfl, Nat.le_refl _, fun _ _ => rfl⟩
    go_wp2
    go_ret
    have := @countE_bad deep 1 n c kids (by simp [t1])
    rw [this]
    exact ⟨rfl, hC5⟩
   by_cases t3 : deep > 40
   ·go_quiet ((go_at_call 136; exact Calls.quiet_of_same (hK _)))
    have hC5 := CE.below hC3'.out (w2 := W.drewN nq) ⟨rfl, rfl, rfl, Nat.le_refl _, fun _ _ => rfl⟩
    go_wp2
    go_ret
    have := @countE_bad deep 1 n c kids (by simp [t3])
    rw [this]
    exact ⟨rfl, hC5⟩
   by_cases t2 : (kids.length : Int) = km
   ·cases okb with
    | false =>
     go_quiet ((go_at_call 136; exact Calls.quiet_of_same (hK _)))
     have hC5 := CE.below hC3'.out (w2 := W.drewN nq) ⟨rfl, rfl, rfl, Nat.le_refl _, fun _ _ => rfl⟩
     go_wp2
     go_ret
     have := @countE_bad deep 1 n c kids (by rw [HN.out]; simp)
     rw [this]
     exact ⟨rfl, hC5⟩
    | true =>
     have T := Aside0.mk (And.intro t1 (And.intro t3 t2))
     go_quiet ((go_at_call 136; exact Calls.quiet_of_same (hK _)))
     have hC5 := Aside0.mk (CE.below hC3'.out (w2 := W.drewN nq) ⟨rfl, rfl, rfl, Nat.le_refl _, fun _ _ => rfl⟩)
     replace hX2 : (W.drewN nq).cell? ⟨B, 2, none⟩ = some (.slice A2 kids.length c2) := hX2
     replace hXb : (W.drewN nq).cell? ⟨B + 1, 0, none⟩ = some (.int .i64 deep) := hXb
     replace hXc : (W.drewN nq).cell? ⟨B + 1 + 1, 0, none⟩ = some (.pointer (some ⟨g, 0, none⟩)) := hXc
     clear hX0 hX1 hXg hC3'
     generalize W.drewN nq = W3 at *
     obtain ⟨q1, q2, q3, q4, q5, q6⟩ := H.out
     have hcall := countE_kids deep (wrap64 (c + 1)) kids A2 c2 g B w0 w W3 q1 q2 q3 q4 hC5.out hXb hXc q5 q6
     clear q1 q2 q3 q4 q5 q6
     have hres := Aside0.mk (@countE_good deep 1 n c kids T.out.1 T.out.2.1 (T.out.2.2.trans HM.out.symm) HN.out)
     generalize countEs kids (wrap64 (deep + 1)) (wrap64 (c + 1)) = q at hcall hres
     obtain ⟨r1, r2⟩ := q
     simp only at hcall
     go_wp2_with (go_at_call 120; refine hcall.mono ?_; rintro e w' ⟨rfl, hb⟩)
     go_ret
     rw [hres.out]
     exact ⟨by simp, hC5.out.trans hb⟩
   ·have HT := Aside0.mk t2
    go_quiet ((go_at_call 136; exact Calls.quiet_of_same (hK _)))
    have hC5 := CE.below hC3'.out (w2 := W.drewN nq) ⟨rfl, rfl, rfl, Nat.le_refl _, fun _ _ => rfl⟩
    go_wp2
    go_ret
    have := @countE_bad deep 1 n c kids (by rw [HM.out, beq_false_of_ne HT.out]; simp)
    rw [this]
    exact ⟨rfl, hC5⟩
  by_cases k2 : kind = 2
  ·subst k2
   go_upto_region 8 with (go_at_call 79; refine (within_anyE _ _ _ _).mono ?_; rintro e w' ⟨rfl, hq⟩; have hq2 := hq.symm; subst hq2; clear hq)
   have hnum : numB 2 n = (decide (0 ≤ n) && decide (n ≤ 1)) := by rw [numB, if_neg (by decide), if_pos rfl]
   generalize (decide (0 ≤ n) && decide (n ≤ 1)) = okb at hnum ⊢
   have HN := Aside0.mk hnum
   clear hnum
   generalize hkm : kidsM 2 = km at hK
   have HM := Aside0.mk hkm
   clear hkm
   by_cases t1 : wrap64 (c + 1) > 400
   ·go_quiet ((go_at_call 136; exact Calls.quiet_of_same (hK _)))
    have hC5 := CE.below hC3'.out (w2 := W.drewN nq) ⟨rfl, rfl, rfl, Nat.le_refl _, fun _ _ => rfl⟩
    go_wp2
    go_ret
    have := @countE_bad deep 2 n c kids (by simp [t1])
    rw [this]
    exact ⟨rfl, hC5⟩
   by_cases t3 : deep > 40
   ·go_quiet ((go_at_call 136; exact Calls.quiet_of_same (hK _)))
    have hC5 := CE.below hC3'.out (w2 := W.drewN nq) ⟨rfl, rfl, rfl, Nat.le_refl _, fun _ _ => rfl⟩
    go_wp2
    go_ret
    have := @countE_bad deep 2 n c kids (by simp [t3])
    rw [this]
    exact ⟨rfl, hC5⟩
   by_cases t2 : (kids.length : Int) = km
   ·cases okb with
    | false =>
     go_quiet ((go_at_call 136; exact Calls.quiet_of_same (hK _)))
     have hC5 := CE.below hC3'.out (w2 := W.drewN nq) ⟨rfl, rfl, rfl, Nat.le_refl _, fun _ _ => rfl⟩
     go_wp2
     go_ret
     have := @countE_bad deep 2 n c kids (by rw [HN.out]; simp)
     rw [this]
     exact ⟨rfl, hC5⟩
    | true =>
     have T := Aside0.mk (And.intro t1 (And.intro t3 t2))
     go_quiet ((go_at_call 136; exact Calls.quiet_of_same (hK _)))
     have hC5 := Aside0.mk (CE.below hC3'.out (w2 := W.drewN nq) ⟨rfl, rfl, rfl, Nat.le_refl _, fun _ _ => rfl⟩)
     replace hX2 : (W.drewN nq).cell? ⟨B, 2, none⟩ = some (.slice A2 kids.length c2) := hX2
     replace hXb : (W.drewN nq).cell? ⟨B + 1, 0, none⟩ = some (.int .i64 deep) := hXb
     replace hXc : (W.drewN nq).cell? ⟨B + 1 + 1, 0, none⟩ = some (.pointer (some ⟨g, 0, none⟩)) := hXc
     clear hX0 hX1 hXg hC3'
     generalize W.drewN nq = W3 at *
     obtain ⟨q1, q2, q3, q4, q5, q6⟩ := H.out
     have hcall := countE_kids deep (wrap64 (c + 1)) kids A2 c2 g B w0 w W3 q1 q2 q3 q4 hC5.out hXb hXc q5 q6
     clear q1 q2 q3 q4 q5 q6
     have hres := Aside0.mk (@countE_good deep 2 n c kids T.out.1 T.out.2.1 (T.out.2.2.trans HM.out.symm) HN.out)
     generalize countEs kids (wrap64 (deep + 1)) (wrap64 (c + 1)) = q at hcall hres
     obtain ⟨r1, r2⟩ := q
     simp only at hcall
     go_wp2_with (go_at_call 120; refine hcall.mono ?_; rintro e w' ⟨rfl, hb⟩)
     go_ret
     rw [hres.out]
     exact ⟨by simp, hC5.out.trans hb⟩
   ·have HT := Aside0.mk t2
    go_quiet ((go_at_call 136; exact Calls.quiet_of_same (hK _)))
    have hC5 := CE.below hC3'.out (w2 := W.drewN nq) ⟨rfl, rfl, rfl, Nat.le_refl _, fun _ _ => rfl⟩
    go_wp2
    go_ret
    have := @countE_bad deep 2 n c kids (by rw [HM.out, beq_false_of_ne HT.out]; simp)
    rw [this]
    exact ⟨rfl, hC5⟩
  go_upto_region 8 with (go_at_call 79; refine (within_anyE _ _ _ _).mono ?_; rintro e w' ⟨rfl, hq⟩; have hq2 := hq.symm; subst hq2; clear hq)
  have hnum : numB kind n = (n == 0) := by rw [numB, if_neg k1, if_neg k2]
  generalize (n == 0) = okb at hnum ⊢
  have HN := Aside0.mk hnum
  clear hnum
  generalize hkm : kidsM kind = km at hK
  have HM := Aside0.mk hkm
  clear hkm
  by_cases t1 : wrap64 (c + 1) > 400
  ·go_quiet ((go_at_call 136; exact Calls.quiet_of_same (hK _)))
   have hC5 := CE.below hC3'.out (w2 := W.drewN nq) ⟨rfl, rfl, rfl, Nat.le_refl _, fun _ _ => rfl⟩
   go_wp2
   go_ret
   have := @countE_bad deep kind n c kids (by simp [t1])
   rw [this]
   exact ⟨rfl, hC5⟩
  by_cases t3 : deep > 40
  ·go_quiet ((go_at_call 136; exact Calls.quiet_of_same (hK _)))
   have hC5 := CE.below hC3'.out (w2 := W.drewN nq) ⟨rfl, rfl, rfl, Nat.le_refl _, fun _ _ => rfl⟩
   go_wp2
   go_ret
   have := @countE_bad deep kind n c kids (by simp [t3])
   rw [this]
   exact ⟨rfl, hC5⟩
  by_cases t2 : (kids.length : Int) = km
  ·cases okb with
   | false =>
    go_quiet ((go_at_call 136; exact Calls.quiet_of_same (hK _)))
    have hC5 := CE.below hC3'.out (w2 := W.drewN nq) ⟨rfl, rfl, rfl, Nat.le_refl _, fun _ _ => rfl⟩
    go_wp2
    go_ret
    have := @countE_bad deep kind n c kids (by rw [HN.out]; simp)
    rw [this]
    exact ⟨rfl, hC5⟩
   | true =>
    have T := Aside0.mk (And.intro t1 (And.intro t3 t2))
    go_quiet ((go_at_call 136; exact Calls.quiet_of_same (hK _)))
    have hC5 := Aside0.mk (CE.below hC3'.out (w2 := W.drewN nq) ⟨rfl, rfl, rfl, Nat.le_refl _, fun _ _ => rfl⟩)
    replace hX2 : (W.drewN nq).cell? ⟨B, 2, none⟩ = some (.slice A2 kids.length c2) := hX2
    replace hXb : (W.drewN nq).cell? ⟨B + 1, 0, none⟩ = some (.int .i64 deep) := hXb
    replace hXc : (W.drewN nq).cell? ⟨B + 1 + 1, 0, none⟩ = some (.pointer (some ⟨g, 0, none⟩)) := hXc
    clear hX0 hX1 hXg hC3'
    generalize W.drewN nq = W3 at *
    obtain ⟨q1, q2, q3, q4, q5, q6⟩ := H.out
    have hcall := countE_kids deep (wrap64 (c + 1)) kids A2 c2 g B w0 w W3 q1 q2 q3 q4 hC5.out hXb hXc q5 q6
    clear q1 q2 q3 q4 q5 q6
    have hres := Aside0.mk (@countE_good deep kind n c kids T.out.1 T.out.2.1 (T.out.2.2.trans HM.out.symm) HN.out)
    generalize countEs kids (wrap64 (deep + 1)) (wrap64 (c + 1)) = q at hcall hres
    obtain ⟨r1, r2⟩ := q
    simp only at hcall
    go_wp2_with (go_at_call 120; refine hcall.mono ?_; rintro e w' ⟨rfl, hb⟩)
    go_ret
    rw [hres.out]
    exact ⟨by simp, hC5.out.trans hb⟩
  ·have HT := Aside0.mk t2
   go_quiet ((go_at_call 136; exact Calls.quiet_of_same (hK _)))
   have hC5 := CE.below hC3'.out (w2 := W.drewN nq) ⟨rfl, rfl, rfl, Nat.le_refl _, fun _ _ => rfl⟩
   go_wp2
   go_ret
   have := @countE_bad deep kind n c kids (by rw [HM.out, beq_false_of_ne HT.out]; simp)
   rw [this]
   exact ⟨rfl, hC5⟩
theorem heap2E (w : World) (a b : Obj) : ((w.alloc a).alloc b).heap[w.heap.size + 1]? = some b := by
 show ((w.heap.push a).push b)[w.heap.size + 1]? = some b
 rw [Array.getElem?_push]
 simp
theorem below2E (w : World) (a b : Obj) : Below w.heap.size w ((w.alloc a).alloc b) := by
 have h1 := (Below.refl w.heap.size w).alloc (Nat.le_refl _) a
 exact h1.alloc h1.size b
def impl_isEx.f (a0_0 a0_1 : Int) (l0_2 : List (S31)) : Option Bool := some (countE ⟨a0_0, a0_1, l0_2⟩ 1 0).1
set_option maxHeartbeats 4000000 in
set_option maxRecDepth 100000 in
theorem impl_isEx.calls (a0_0 : Int) (a0_1 : Int) (A0_2 : Option Addr) (c0_2 : Nat) (l0_2 : List (S31)) (r : Bool) (w : World) (hr0_2 : Kd.C k31 w A0_2 l0_2.length l0_2) (hc0_2 : l0_2.length ≤ c0_2) (h : impl_isEx.f a0_0 a0_1 l0_2 = some r) :
  Calls Try.prog 60 #[.agg #[.int .i64 a0_0, .int .i64 a0_1, .slice A0_2 l0_2.length c0_2]] w fun e w' => e = .returned (.bool r) ∧ Below w.heap.size w w' := by
 have hrr : (countE ⟨a0_0, a0_1, l0_2⟩ 1 0).1 = r := Option.some.inj h
 have hB := below2E w (.cells #[.int .i64 a0_0, .int .i64 a0_1, .slice A0_2 l0_2.length c0_2] 31) (.cells #[.int .i64 0] 3)
 have hcall := countE_calls _ ⟨a0_0, a0_1, l0_2⟩ (Nat.lt_succ_self _) 1 0 A0_2 c0_2 (w.heap.size + 1) w ((w.alloc (.cells #[.int .i64 a0_0, .int .i64 a0_1, .slice A0_2 l0_2.length c0_2] 31)).alloc (.cells #[.int .i64 0] 3)) hr0_2 hc0_2 hB (by omega) (heap2E w _ _)
 rw [hrr] at hcall
 have HB := Aside0.mk hB
 clear h hr0_2 hc0_2 hrr hB
 go_enter Try.func60, Try.ntmps60
 go_wp2_with (go_at_call 113; refine hcall.mono ?_; rintro e w' ⟨rfl, hb⟩)
 go_ret
 exact ⟨rfl, hb.base HB.out (by omega)⟩
def exI (x : S31) : Bool := (countE x 1 0).1
set_option maxHeartbeats 4000000 in
set_option maxRecDepth 100000 in
theorem areExs_fn (x : S31) (A2 : Option Addr) (c2 : Nat) (w : World) (hr : Kd.C k31 w A2 x.f2.length x.f2) (hc : x.f2.length ≤ c2) :
  Calls Try.prog 121 #[.agg #[.int .i64 x.f0, .int .i64 x.f1, .slice A2 x.f2.length c2]] w fun e w' => e = .returned (.bool (!(exI x))) ∧ Below w.heap.size w w' := by
 obtain ⟨x0, x1, x2⟩ := x
 have hB : Below w.heap.size w (w.alloc (.cells #[.int .i64 x0, .int .i64 x1, .slice A2 x2.length c2] 31)) := (Below.refl _ _).alloc (Nat.le_refl _) _
 have hcall := impl_isEx.calls x0 x1 A2 c2 x2 (exI ⟨x0, x1, x2⟩) (w.alloc (.cells #[.int .i64 x0, .int .i64 x1, .slice A2 x2.length c2] 31)) (Kd.C_below hr hB) hc rfl
 have HB := Aside0.mk hB
 have hu := Try.underlying31
 clear hr hc hB
 generalize exI ⟨x0, x1, x2⟩ = b at hcall ⊢
 go_enter Try.func121, Try.ntmps121
 go_wp2_with (go_at_call 60; refine hcall.mono ?_; rintro e w' ⟨rfl, hb⟩)
 go_ret
 exact ⟨rfl, HB.out.trans (hb.mono HB.out.size)⟩
def impl_areExs.f (l0 : List (S31)) : Option Bool := some (l0.all exI)
set_option maxHeartbeats 4000000 in
set_option maxRecDepth 100000 in
theorem impl_areExs.calls (A0 : Option Addr) (c0 : Nat) (l0 : List (S31)) (r : Bool) (w : World) (hr0 : Kd.C k31 w A0 l0.length l0) (hc0 : l0.length ≤ c0) (h : impl_areExs.f l0 = some r) :
  Calls Try.prog 80 #[.slice A0 l0.length c0] w fun e w' => e = .returned (.bool r) ∧ Below w.heap.size w w' := by
 obtain rfl : l0.all exI = r := Option.some.inj h
 have hcall := any31 (fun _ W => Below w.heap.size w W) (fun i => !(exI (rd_T31 l0 (i : Int)))) l0 121 #[] (enters_of Try.func121 (by kernel_rfl) rfl) A0 c0 w (Kd.C_max hr0) (Below.refl _ _) w hr0 (fun _ _ h => h)
  (fun i hi _ W hW A2 c2 hd hc => (areExs_fn (rd_T31 l0 (i : Int)) A2 c2 W (Kd.C_below hd hW) hc).mono (by
   rintro e w' ⟨rfl, hb⟩
   exact ⟨rfl, hW.trans (hb.mono hW.size)⟩))
 have hans : ∀ (b : Bool) (m : Nat), ((b = false ∧ m = l0.length ∧ ∀ j, j < m → (!(exI (rd_T31 l0 (j : Int)))) = false) ∨ (b = true ∧ ∃ i, m = i + 1 ∧ (!(exI (rd_T31 l0 (i : Int)))) = true ∧ ∀ j, j < i → (!(exI (rd_T31 l0 (j : Int)))) = false)) → m ≤ l0.length → (!b) = l0.all exI := by
  rintro b m (⟨rfl, rfl, h1⟩ | ⟨rfl, i, rfl, h1, h2⟩) hm
  ·symm
   rw [Bool.not_false, List.all_eq_true]
   intro x hx
   obtain ⟨j, hj, rfl⟩ := List.getElem_of_mem hx
   have hr : rd_T31 l0 (j : Int) = l0[j] := by unfold rd_T31; simp [List.getD, hj]
   have := h1 j hj
   rw [hr] at this
   simpa using this
  ·have hi : i < l0.length := by omega
   have hr : rd_T31 l0 (i : Int) = l0[i] := by unfold rd_T31; simp [List.getD, hi]
   rw [hr] at h1
   cases hb : l0.all exI with
   | false => rfl
   | true =>
    rw [List.all_eq_true] at hb
    rw [hb _ (List.getElem_mem hi)] at h1
    cases h1
 have HA := Aside0.mk hans
 clear h hr0 hc0 hans
 go_enter Try.func80, Try.ntmps80
 go_wp2_with (go_at_call 120; refine hcall.mono ?_; rintro e w' ⟨b, rfl, m, hm, hb, hq⟩)
 go_ret
 rw [← HA.out b m hq hm]
 exact ⟨rfl, hb⟩
set_option maxHeartbeats 4000000 in
set_option maxRecDepth 100000 in
/-- slices.IndexFunc over a row of structs, with a predicate that may change what the invariant allows. -/
theorem idx81 (I : Nat → World → Prop) (p : Nat → Bool) (l : List (S81)) (g : Nat) (lb : Array Value) (eg : ∀ args w, (callFunc g args).run Try.prog w = .ok (.enter g args) w) (A : Option Addr) (c : Nat) (w : World) (hn : l.length ≤ 9223372036854775807) (h0 : I 0 w)
  (w0 : World) (hd : Kd.C k81 w0 A l.length l) (hB : ∀ i W, I i W → Below w0.heap.size w0 W)
  (hp : ∀ i, i < l.length → (∀ j, j < i → p j = false) → ∀ W, I i W → ∀ A2 c2, Kd.C k81 w0 A2 (rd_T81 l (i : Int)).f2.length (rd_T81 l (i : Int)).f2 → (rd_T81 l (i : Int)).f2.length ≤ c2 →
   Calls Try.prog g (#[.agg #[.int .i64 (rd_T81 l (i : Int)).f0, .int .i64 (rd_T81 l (i : Int)).f1, .slice A2 (rd_T81 l (i : Int)).f2.length c2]] ++ lb) W fun e W' => e = .returned (.bool (p i)) ∧ I (i + 1) W') :
  Calls Try.prog 147 #[.slice A l.length c, .func (.func g) #[] lb] w fun e w' => ∃ r : Int, e = .returned (.int .i64 r) ∧ ∃ m, m ≤ l.length ∧ I m w' ∧ ((r = -1 ∧ m = l.length ∧ ∀ j, j < m → p j = false) ∨ (0 ≤ r ∧ ∃ i, m = i + 1 ∧ p i = true ∧ ∀ j, j < i → p j = false)) := by
 have HP := Aside0.mk hp
 have HC := Aside0.mk hB
 have HD := Aside0.mk hd
 have H0 := Aside0.mk h0
 clear hp hB hd h0
 go_enter Try.func147, Try.ntmps147
 go_wp2
 go_loopg [5, 8] l.length (fun gg _ s8 wr => ∃ kk : Nat, kk ≤ l.length ∧ l.length - kk ≤ gg ∧ s8 = .int .i64 kk ∧ Aside0 (I kk wr) ∧ Aside0 (∀ j, j < kk → p j = false))
 case atStart => exact ⟨0, Nat.zero_le _, by omega, rfl, H0, ⟨fun j hj => absurd hj (Nat.not_lt_zero _)⟩⟩
 case round =>
  obtain ⟨kk, hkk, hg, rfl, HI, HN⟩ := hrel
  by_cases hlt : kk < l.length
  ·have hltz : (kk : Int) < (l.length : Int) := by omega
   obtain ⟨ad, A2, c2, ea, hx0, hx1, hx2, hl2, hC2⟩ := at_T81 HD.out (kk : Int) (by omega) (by omega)
   cases ea
   rw [Int.toNat_natCast] at hx0 hx1 hx2
   replace hx0 := ((HC.out kk wr HI.out).cell (World.block_lt_of_cell? w0 _ hx0)).trans hx0
   replace hx1 := ((HC.out kk wr HI.out).cell (World.block_lt_of_cell? w0 _ hx1)).trans hx1
   replace hx2 := ((HC.out kk wr HI.out).cell (World.block_lt_of_cell? w0 _ hx2)).trans hx2
   have hcall := HP.out kk hlt HN.out wr HI.out A2 c2 hC2 hl2
   have HP2 := Aside0.mk hC2
   clear hC2 hl2
   cases hq : p kk with
   | true =>
    rw [hq] at hcall
    have HQ := Aside0.mk hq
    clear hq
    go_wp2_with (go_at_fn g; refine hcall.mono ?_; rintro e w' ⟨rfl, hb⟩)
    go_ret
    exact ⟨kk, rfl, kk + 1, by omega, hb, .inr ⟨by omega, kk, rfl, HQ.out, HN.out⟩⟩
   | false =>
    rw [hq] at hcall
    have HQ := Aside0.mk hq
    clear hq
    go_wp2_with (go_at_fn g; refine hcall.mono ?_; rintro e w' ⟨rfl, hb⟩)
    go_roundg (l.length - (kk + 1))
    case measure => omega
    case rel =>
     refine ⟨kk + 1, by omega, by omega, by go_num, ⟨hb⟩, ⟨fun j hj => ?_⟩⟩
     by_cases e : j = kk
     ·subst e
      exact HQ.out
     ·exact HN.out j (by omega)
  ·have hltz : ¬ (kk : Int) < (l.length : Int) := by omega
   have : kk = l.length := by omega
   subst this
   go_wp2
   go_ret
   exact ⟨-1, rfl, l.length, Nat.le_refl _, HI.out, .inl ⟨rfl, rfl, HN.out⟩⟩
set_option maxHeartbeats 4000000 in
theorem any81 (I : Nat → World → Prop) (p : Nat → Bool) (l : List (S81)) (g : Nat) (lb : Array Value) (eg : ∀ args w, (callFunc g args).run Try.prog w = .ok (.enter g args) w) (A : Option Addr) (c : Nat) (w : World) (hn : l.length ≤ 9223372036854775807) (h0 : I 0 w)
  (w0 : World) (hd : Kd.C k81 w0 A l.length l) (hB : ∀ i W, I i W → Below w0.heap.size w0 W)
  (hp : ∀ i, i < l.length → (∀ j, j < i → p j = false) → ∀ W, I i W → ∀ A2 c2, Kd.C k81 w0 A2 (rd_T81 l (i : Int)).f2.length (rd_T81 l (i : Int)).f2 → (rd_T81 l (i : Int)).f2.length ≤ c2 →
   Calls Try.prog g (#[.agg #[.int .i64 (rd_T81 l (i : Int)).f0, .int .i64 (rd_T81 l (i : Int)).f1, .slice A2 (rd_T81 l (i : Int)).f2.length c2]] ++ lb) W fun e W' => e = .returned (.bool (p i)) ∧ I (i + 1) W') :
  Calls Try.prog 143 #[.slice A l.length c, .func (.func g) #[] lb] w fun e w' => ∃ b : Bool, e = .returned (.bool b) ∧ ∃ m, m ≤ l.length ∧ I m w' ∧ ((b = false ∧ m = l.length ∧ ∀ j, j < m → p j = false) ∨ (b = true ∧ ∃ i, m = i + 1 ∧ p i = true ∧ ∀ j, j < i → p j = false)) := by
 have hcall := idx81 I p l g lb eg A c w hn h0 w0 hd hB hp
 clear hp hB hd h0
 go_enter Try.func143, Try.ntmps143
 go_wp2_with (go_at_call 147; refine hcall.mono ?_; rintro e w' ⟨r, rfl, hr⟩)
 go_ret
 obtain ⟨m, hm, hI, h⟩ := hr
 refine ⟨_, rfl, m, hm, hI, ?_⟩
 rcases h with ⟨rfl, h⟩ | ⟨h0, h⟩
 ·exact .inl ⟨by first | rfl | simp, h⟩
 ·exact .inr ⟨by first | exact decide_eq_true h0 | (simp; omega), h⟩
end Go.Proofs.Ytcmkkoggdcjceaa.PFnExactWordBits
end
section
namespace Go.Proofs.Ytcmkkoggdcjceaa.PFnExactWordBits
open Go.RowKit Go.Proofs.YtcmkkoggdcjceaaW.PrintWords Go.Proofs.YtcmkkoggdcjceaaW.PrintLast Go.Proofs.YtcmkkoggdcjceaaW.PrintMore
attribute [local go_sem] max2_int min2_int max_two min_two max_three min_three max_four min_four   -- for this text's walks alone
set_option linter.unusedVariables false
set_option linter.unusedSimpArgs false
structure CB (g : Nat) (c : Int) (w w' : World) : Prop where
 os : w'.os = w.os
 tape : w'.tape = w.tape
 output : w'.output = w.output
 size : w.heap.size ≤ w'.heap.size
 block : ∀ k, k < w.heap.size → k ≠ g → w'.heap[k]? = w.heap[k]?
 cnt : w'.heap[g]? = some (.cells #[.int .i64 c] 3 (0, 0))
theorem CB.refl {g : Nat} {c : Int} {w : World} (h : w.heap[g]? = some (.cells #[.int .i64 c] 3 (0, 0))) : CB g c w w := ⟨rfl, rfl, rfl, Nat.le_refl _, fun _ _ _ => rfl, h⟩
theorem CB.trans {g : Nat} {c c1 : Int} {w w1 w2 : World} (h : CB g c w w1) (k : CB g c1 w1 w2) : CB g c1 w w2 :=
 ⟨k.os.trans h.os, k.tape.trans h.tape, k.output.trans h.output, Nat.le_trans h.size k.size, fun i hi hg => (k.block i (Nat.lt_of_lt_of_le hi h.size) hg).trans (h.block i hi hg), k.cnt⟩
theorem CB.lt {g : Nat} {c : Int} {w w' : World} (h : CB g c w w') : g < w'.heap.size := (Array.getElem?_eq_some_iff.1 h.cnt).1
theorem CB.below {g : Nat} {c : Int} {w w1 w2 : World} (h : CB g c w w1) (k : Below w1.heap.size w1 w2) : CB g c w w2 :=
 ⟨k.os.trans h.os, k.tape.trans h.tape, k.output.trans h.output, Nat.le_trans h.size k.size, fun i hi hg => (k.block i (Nat.lt_of_lt_of_le hi h.size)).trans (h.block i hi hg), (k.block g h.lt).trans h.cnt⟩
theorem CB.cell {g : Nat} {c : Int} {w w' : World} (h : CB g c w w') {k o : Nat} (hk : k < w.heap.size) (hg : k ≠ g) : w'.cell? ⟨k, o, none⟩ = w.cell? ⟨k, o, none⟩ := World.cell?_of_block (w := w) (h.block k hk hg)
theorem CB.val {g : Nat} {c : Int} {w w' : World} (h : CB g c w w') : w'.cell? ⟨g, 0, none⟩ = some (.int .i64 c) := (blk_cell h.cnt 0).trans rfl
theorem CB.set {g : Nat} {c c1 : Int} {w w' : World} (h : CB g c w w') : CB g c1 w (w'.setCell ⟨g, 0, none⟩ (.int .i64 c1)) :=
 ⟨h.os, h.tape, h.output, by simpa [World.setCell] using h.size, fun i hi hg => (Below.heap_setCell w' ⟨g, 0, none⟩ _ i hg).trans (h.block i hi hg), by
  have := h.cnt
  simp only [World.setCell, Array.getElem?_modify, if_true, this]
  rfl⟩
theorem within_any (a lo hi : Int) (w : World) : Calls Try.prog 79 #[.int .i64 a, .int .i64 lo, .int .i64 hi] w fun e w' => e = .returned (.bool (decide (lo ≤ a) && decide (a ≤ hi))) ∧ w' = w := by
 by_cases h : lo ≤ a
 ·rw [decide_eq_true h, Bool.true_and]
  go_enter Try.func79, Try.ntmps79
  go_wp2
  go_ret
  exact ⟨rfl, rfl⟩
 ·rw [decide_eq_false h, Bool.false_and]
  go_enter Try.func79, Try.ntmps79
  go_wp2
  go_ret
  exact ⟨rfl, rfl⟩
def okW (bits kind n : Int) : Option (Int × Bool) :=
 if kind = 1 then some (0, decide (0 ≤ n) && decide (n ≤ wrap64 (wrap64 (2 ^ bits.toNat) - 1)))
 else if kind = 2 then some (0, decide (0 ≤ n) && decide (n ≤ wrap64 ((12 : Int) / bits - 1)))
 else if kind = 3 then some (2, n == 0) else if kind = 4 then some (2, n == 0) else if kind = 5 then some (2, n == 0) else none
mutual
/-- whether a word is right, and the count of nodes behind it -/
def countW (bits : Int) : S81 → Int → Bool × Int
 | ⟨kind, n, kids⟩, c => match okW bits kind n with
  | none => (false, wrap64 (c + 1))
  | some (m, ok) => if decide (wrap64 (c + 1) > 9) || (!ok || !((kids.length : Int) == m)) then (false, wrap64 (c + 1)) else countWs bits kids (wrap64 (c + 1))
def countWs (bits : Int) : List (S81) → Int → Bool × Int
 | [], c => (true, c)
 | x :: r, c => match countW bits x c with
  | (true, c1) => countWs bits r c1
  | (false, c1) => (false, c1)
end
def stW (bits : Int) (l : List (S81)) (c : Int) : Nat → Int
 | 0 => c
 | i + 1 => (countW bits (rd_T81 l (i : Int)) (stW bits l c i)).2
theorem countWs_all (bits : Int) (c : Int) (l : List (S81)) (h : ∀ j, j < l.length → (countW bits (rd_T81 l (j : Int)) (stW bits l c j)).1 = true) : countWs bits l c = (true, stW bits l c l.length) := by
 have key : ∀ d i, i + d = l.length → countWs bits (l.drop i) (stW bits l c i) = (true, stW bits l c l.length) := by
  intro d
  induction d with
  | zero =>
   intro i hi
   obtain rfl : i = l.length := by omega
   rw [List.drop_length, countWs]
  | succ d ih =>
   intro i hi
   have hil : i < l.length := by omega
   have hr : rd_T81 l (i : Int) = l[i] := by unfold rd_T81; simp [List.getD, hil]
   rw [List.drop_eq_getElem_cons hil, countWs]
   have h1 := h i hil
   rw [hr] at h1
   have h2 := ih (i + 1) (by omega)
   rw [stW, hr] at h2
   generalize countW bits l[i] (stW bits l c i) = q at h1 h2
   obtain ⟨q1, q2⟩ := q
   subst h1
   exact h2
 have := key l.length 0 (by omega)
 rw [List.drop_zero, stW] at this
 exact this
theorem countWs_hit (bits : Int) (c : Int) (l : List (S81)) (i : Nat) (hi : i < l.length) (hf : (countW bits (rd_T81 l (i : Int)) (stW bits l c i)).1 = false) (h : ∀ j, j < i → (countW bits (rd_T81 l (j : Int)) (stW bits l c j)).1 = true) : countWs bits l c = (false, stW bits l c (i + 1)) := by
 have key : ∀ d k, k + d = i → countWs bits (l.drop k) (stW bits l c k) = (false, stW bits l c (i + 1)) := by
  intro d
  induction d with
  | zero =>
   intro k hk
   obtain rfl : k = i := by omega
   have hr : rd_T81 l (k : Int) = l[k] := by unfold rd_T81; simp [List.getD, hi]
   rw [List.drop_eq_getElem_cons hi, countWs, stW]
   rw [hr] at hf ⊢
   generalize countW bits l[k] (stW bits l c k) = q at hf ⊢
   obtain ⟨q1, q2⟩ := q
   subst hf
   rfl
  | succ d ih =>
   intro k hk
   have hkl : k < l.length := by omega
   have hr : rd_T81 l (k : Int) = l[k] := by unfold rd_T81; simp [List.getD, hkl]
   rw [List.drop_eq_getElem_cons hkl, countWs]
   have h1 := h k (by omega)
   rw [hr] at h1
   have h2 := ih (k + 1) (by omega)
   rw [stW, hr] at h2
   generalize countW bits l[k] (stW bits l c k) = q at h1 h2
   obtain ⟨q1, q2⟩ := q
   subst h1
   exact h2
 have := key i 0 (by omega)
 rw [List.drop_zero, stW] at this
 exact this
def SaidW (bits : Int) (x : S81) : Prop := ∀ (c : Int) (A2 : Option Addr) (c2 : Nat) (g : Nat) (w0 w : World), Kd.C k81 w0 A2 x.f2.length x.f2 → x.f2.length ≤ c2 → Below w0.heap.size w0 w → w0.heap.size ≤ g → w.heap[g]? = some (.cells #[.int .i64 c] 3 (0, 0)) →
 Calls Try.prog 130 #[.agg #[.int .i64 x.f0, .int .i64 x.f1, .slice A2 x.f2.length c2], .int .i64 bits, .pointer (some ⟨g, 0, none⟩)] w fun e w' => e = .returned (.bool (countW bits x c).1) ∧ CB g (countW bits x c).2 w w'
theorem CB.base {g : Nat} {c : Int} {w0 w w' : World} (h : CB g c w w') (hb : Below w0.heap.size w0 w) (hg : w0.heap.size ≤ g) : Below w0.heap.size w0 w' :=
 ⟨h.os.trans hb.os, h.tape.trans hb.tape, h.output.trans hb.output, Nat.le_trans hb.size h.size, fun k hk => (h.block k (Nat.lt_of_lt_of_le hk hb.size) (by omega)).trans (hb.block k hk)⟩
set_option maxHeartbeats 4000000 in
set_option maxRecDepth 100000 in
theorem countW_fn (bits : Int) (x : S81) (hx : SaidW bits x) (c : Int) (A2 : Option Addr) (c2 : Nat) (g B : Nat) (w0 w : World) (hr : Kd.C k81 w0 A2 x.f2.length x.f2) (hc : x.f2.length ≤ c2) (hb : Below w0.heap.size w0 w) (hg : w0.heap.size ≤ g) (hcnt : w.heap[g]? = some (.cells #[.int .i64 c] 3 (0, 0)))
  (h1 : w.cell? ⟨B, 0, none⟩ = some (.int .i64 bits)) (h2 : w.cell? ⟨B + 1, 0, none⟩ = some (.pointer (some ⟨g, 0, none⟩))) :
  Calls Try.prog 144 #[.agg #[.int .i64 x.f0, .int .i64 x.f1, .slice A2 x.f2.length c2], .pointer (some ⟨B, 0, none⟩), .pointer (some ⟨B + 1, 0, none⟩)] w fun e w' => e = .returned (.bool (!(countW bits x c).1)) ∧ CB g (countW bits x c).2 w w' := by
 have hcall := hx c A2 c2 g w0 (w.alloc (.cells #[.int .i64 x.f0, .int .i64 x.f1, .slice A2 x.f2.length c2] 81)) hr hc (hb.alloc hb.size _) hg ((((Below.refl w.heap.size w).alloc (Nat.le_refl _) _).block g (Array.getElem?_eq_some_iff.1 hcnt).1).trans hcnt)
 have hB : Below w.heap.size w (w.alloc (.cells #[.int .i64 x.f0, .int .i64 x.f1, .slice A2 x.f2.length c2] 81)) := (Below.refl _ _).alloc (Nat.le_refl _) _
 have h1' := (hB.cell (World.block_lt_of_cell? w _ h1)).trans h1
 have h2' := (hB.cell (World.block_lt_of_cell? w _ h2)).trans h2
 have H := Aside0.mk hcnt
 have hu := Try.underlying81
 clear hr hc hb hg h1 h2 hcnt hx
 generalize countW bits x c = q at hcall ⊢
 obtain ⟨q1, q2⟩ := q
 simp only at hcall ⊢
 go_enter Try.func144, Try.ntmps144
 go_wp2_with (go_at_call 130; refine hcall.mono ?_; rintro e w' ⟨rfl, hb⟩)
 go_ret
 exact ⟨rfl, ((CB.refl H.out).below hB).trans hb⟩
theorem below3 (w : World) (a b c : Obj) : Below w.heap.size w (((w.alloc a).alloc b).alloc c) := by
 have h1 := (Below.refl w.heap.size w).alloc (Nat.le_refl _) a
 have h2 := h1.alloc h1.size b
 exact h2.alloc h2.size c
theorem countW_none {bits kind n c : Int} {kids : List (S81)} (h : okW bits kind n = none) : countW bits ⟨kind, n, kids⟩ c = (false, wrap64 (c + 1)) := by rw [countW, h]
theorem countW_bad {bits kind n c m : Int} {ok : Bool} {kids : List (S81)} (h : okW bits kind n = some (m, ok)) (hb : (decide (wrap64 (c + 1) > 9) || (!ok || !((kids.length : Int) == m))) = true) : countW bits ⟨kind, n, kids⟩ c = (false, wrap64 (c + 1)) := by
 rw [countW, h]
 simp only [hb, if_true]
theorem countW_good {bits kind n c m : Int} {kids : List (S81)} (h : okW bits kind n = some (m, true)) (h1 : ¬ wrap64 (c + 1) > 9) (h2 : (kids.length : Int) = m) : countW bits ⟨kind, n, kids⟩ c = countWs bits kids (wrap64 (c + 1)) := by
 rw [countW, h]
 simp [h1, h2]
theorem sz_kid {kind n : Int} {kids : List (S81)} {d : Nat} (h : SizeOf.sizeOf (⟨kind, n, kids⟩ : S81) < d + 1) (i : Nat) (hi : i < kids.length) : SizeOf.sizeOf (rd_T81 kids (i : Int)) < d := by
 have hr : rd_T81 kids (i : Int) = kids[i] := by unfold rd_T81; simp [List.getD, hi]
 rw [hr]
 have := List.sizeOf_lt_of_mem (List.getElem_mem hi)
 simp at h
 omega
theorem CB.kid {g : Nat} {c c1 : Int} {w0 w W3 W' : World} (hb : Below w0.heap.size w0 w) (hg : w0.heap.size ≤ g) (h3 : CB g c1 w W3) (h : CB g c W3 W') : Below w0.heap.size w0 W' := (h3.trans h).base hb hg
theorem countW_kids (bits c1 : Int) (kids : List (S81)) (A2 : Option Addr) (c2 g B : Nat) (w0 w W3 : World) (hd : Kd.C k81 w0 A2 kids.length kids) (hb : Below w0.heap.size w0 w) (hg : w0.heap.size ≤ g) (hgB : g < B) (h3 : CB g c1 w W3)
  (hYb : W3.cell? ⟨B + 1, 0, none⟩ = some (.int .i64 bits)) (hYc : W3.cell? ⟨B + 1 + 1, 0, none⟩ = some (.pointer (some ⟨g, 0, none⟩))) (hn : kids.length ≤ 9223372036854775807) (hk : ∀ i : Nat, i < kids.length → SaidW bits (rd_T81 kids (i : Int))) :
  Calls Try.prog 143 #[.slice A2 kids.length c2, .func (.func 144) #[] #[.pointer (some ⟨B + 1, 0, none⟩), .pointer (some ⟨B + 1 + 1, 0, none⟩)]] W3 fun e w' => e = .returned (.bool (!(countWs bits kids c1).1)) ∧ CB g (countWs bits kids c1).2 W3 w' := by
 refine (any81 (fun i W' => CB g (stW bits kids c1 i) W3 W') (fun i => !(countW bits (rd_T81 kids (i : Int)) (stW bits kids c1 i)).1) kids 144 #[.pointer (some ⟨B + 1, 0, none⟩), .pointer (some ⟨B + 1 + 1, 0, none⟩)] (enters_of Try.func144 (by kernel_rfl) rfl) A2 c2 W3 hn (CB.refl h3.cnt) w0 hd (fun i W' h => CB.kid hb hg h3 h) ?_).mono ?_
 ·intro i hi _ W' hW A' c' hd' hc'
  have e1 := (hW.cell (World.block_lt_of_cell? W3 _ hYb) (show B + 1 ≠ g by omega)).trans hYb
  have e2 := (hW.cell (World.block_lt_of_cell? W3 _ hYc) (show B + 1 + 1 ≠ g by omega)).trans hYc
  refine (countW_fn bits _ (hk i hi) (stW bits kids c1 i) A' c' g (B + 1) w0 W' hd' hc' (CB.kid hb hg h3 hW) hg hW.cnt e1 e2).mono ?_
  rintro e w' ⟨rfl, h⟩
  exact ⟨rfl, hW.trans h⟩
 ·rintro e w' ⟨b, rfl, m, hm, hI, h⟩
  rcases h with ⟨rfl, rfl, h⟩ | ⟨rfl, i, rfl, h1, h⟩
  ·have := countWs_all bits c1 kids (fun j hj => by simpa using h j hj)
   rw [this]
   exact ⟨rfl, hI⟩
  ·have := countWs_hit bits c1 kids i (by omega) (by simpa using h1) (fun j hj => by simpa using h j hj)
   rw [this]
   exact ⟨rfl, hI⟩
set_option maxHeartbeats 4000000 in
set_option maxRecDepth 100000 in
theorem countW_calls (bits : Int) (hb1 : 1 ≤ bits) (hb2 : bits ≤ 6) : ∀ (d : Nat) (x : S81), SizeOf.sizeOf x < d → SaidW bits x := by
 intro d
 induction d with
 | zero => exact fun x h => absurd h (Nat.not_lt_zero _)
 | succ d ih =>
  intro x hxd c A2 c2 g w0 w hr hc hb hg hcnt
  obtain ⟨kind, n, kids⟩ := x
  have hgs : g < w.heap.size := (Array.getElem?_eq_some_iff.1 hcnt).1
  have hv0 : w.cell? ⟨g, 0, none⟩ = some (.int .i64 c) := (blk_cell hcnt 0).trans rfl
  have hf0 : w.frozen? ⟨g, 0, none⟩ = false := blk_frozen hcnt 0
  have hB3 : Below w.heap.size w (((w.alloc (.cells #[.int .i64 kind, .int .i64 n, .slice A2 kids.length c2] 81)).alloc (.cells #[.int .i64 bits] 3)).alloc (.cells #[.pointer (some ⟨g, 0, none⟩)] 131)) := below3 _ _ _ _
  have hgA := (hB3.cell (p := ⟨g, 0, none⟩) hgs).trans hv0
  have hgF := (World.frozen?_of_block (a := ⟨g, 0, none⟩) (hB3.block g hgs)).trans hf0
  have hn0 : g ≠ w.heap.size := by omega
  have hn1 : g ≠ w.heap.size + 1 := by omega
  have hn2 : g ≠ w.heap.size + 1 + 1 := by omega
  obtain ⟨W, hW, hX0, hX1, hX2, hXb, hXc, hXg, hC3⟩ : ∃ W, ((((w.alloc (.cells #[.int .i64 kind, .int .i64 n, .slice A2 kids.length c2] 81)).alloc (.cells #[.int .i64 bits] 3)).alloc (.cells #[.pointer (some ⟨g, 0, none⟩)] 131)).setCell ⟨g, 0, none⟩ (.int .i64 (wrap64 (c + 1)))) = W ∧ W.cell? ⟨w.heap.size, 0, none⟩ = some (.int .i64 kind) ∧ W.cell? ⟨w.heap.size, 1, none⟩ = some (.int .i64 n) ∧ W.cell? ⟨w.heap.size, 2, none⟩ = some (.slice A2 kids.length c2) ∧ W.cell? ⟨w.heap.size + 1, 0, none⟩ = some (.int .i64 bits) ∧ W.cell? ⟨w.heap.size + 1 + 1, 0, none⟩ = some (.pointer (some ⟨g, 0, none⟩)) ∧ W.cell? ⟨g, 0, none⟩ = some (.int .i64 (wrap64 (c + 1))) ∧ CB g (wrap64 (c + 1)) w W := by
   have h3 := (((CB.refl hcnt).below hB3).set (c1 := wrap64 (c + 1)))
   refine ⟨_, rfl, ?_, ?_, ?_, ?_, ?_, h3.val, h3⟩
   ·go_simp
   ·go_simp
   ·go_simp
   ·go_simp
   ·go_simp
  have hWs := Aside0.mk hW
  have hC3' := Aside0.mk hC3
  have hkids : ∀ i : Nat, i < kids.length → SaidW bits (rd_T81 kids (i : Int)) := fun i hi => ih _ (sz_kid hxd i hi)
  have hlen : kids.length ≤ 9223372036854775807 := Kd.C_max hr
  have H := Aside0.mk (And.intro hr (And.intro hb (And.intro hg (And.intro hgs (And.intro hlen hkids)))))
  clear hr hc hb hg hcnt hxd ih hB3 hv0 hf0 hC3 hW hkids hlen
  have HX := Aside0.mk (And.intro hX0 (And.intro hX1 (And.intro hX2 (And.intro hXb (And.intro hXc hXg)))))
  clear hX0 hX1 hX2 hXb hXc hXg
  go_enter Try.func130, Try.ntmps130
  go_upto_region 2 with fail
  rw [hWs.out]
  obtain ⟨hX0, hX1, hX2, hXb, hXc, hXg⟩ := HX.out
  clear hWs HX hgA hgF hgs hn0 hn1 hn2
  generalize w.heap.size = B at *
  go_quiet (fail)
  have hC4 := Aside0.mk (CB.below hC3'.out (w2 := W.drewN nq) ⟨rfl, rfl, rfl, Nat.le_refl _, fun _ _ => rfl⟩)
  have hY0 : (W.drewN nq).cell? ⟨B, 0, none⟩ = some (.int .i64 kind) := hX0
  have hY1 : (W.drewN nq).cell? ⟨B, 1, none⟩ = some (.int .i64 n) := hX1
  have hY2 : (W.drewN nq).cell? ⟨B, 2, none⟩ = some (.slice A2 kids.length c2) := hX2
  have hYb : (W.drewN nq).cell? ⟨B + 1, 0, none⟩ = some (.int .i64 bits) := hXb
  have hYc : (W.drewN nq).cell? ⟨B + 1 + 1, 0, none⟩ = some (.pointer (some ⟨g, 0, none⟩)) := hXc
  have hYg : (W.drewN nq).cell? ⟨g, 0, none⟩ = some (.int .i64 (wrap64 (c + 1))) := hXg
  clear hX0 hX1 hX2 hXb hXc hXg hC3'
  generalize W.drewN nq = W2 at *
  by_cases k1 : kind = 1
  ·subst k1
   go_upto_region 6 with fail
   go_quiet ((go_at_call 79; exact Calls.quiet_of_same (within_any _ _ _ _)))
   go_upto_region 12 with fail
   have hC5 := Aside0.mk (CB.below hC4.out (w2 := W2.drewN nq) ⟨rfl, rfl, rfl, Nat.le_refl _, fun _ _ => rfl⟩)
   replace hY0 : (W2.drewN nq).cell? ⟨B, 0, none⟩ = some (.int .i64 1) := hY0
   replace hY2 : (W2.drewN nq).cell? ⟨B, 2, none⟩ = some (.slice A2 kids.length c2) := hY2
   replace hYb : (W2.drewN nq).cell? ⟨B + 1, 0, none⟩ = some (.int .i64 bits) := hYb
   replace hYc : (W2.drewN nq).cell? ⟨B + 1 + 1, 0, none⟩ = some (.pointer (some ⟨g, 0, none⟩)) := hYc
   replace hYg : (W2.drewN nq).cell? ⟨g, 0, none⟩ = some (.int .i64 (wrap64 (c + 1))) := hYg
   clear hY1 hC4
   generalize W2.drewN nq = W3 at *
   generalize hok : (decide (0 ≤ n) && decide (n ≤ wrap64 (wrap64 (2 ^ bits.toNat) - 1))) = okb
   have H1 := Aside0.mk hok
   clear hok
   by_cases t1 : wrap64 (c + 1) > 9
   ·go_wp2
    go_ret
    have := @countW_bad bits 1 n c 0 okb kids (by rw [okW, if_pos rfl, H1.out]) (by simp [t1])
    rw [this]
    exact ⟨rfl, hC5.out⟩
   ·have T1 := Aside0.mk t1
    cases okb with
    | false =>
     go_wp2
     go_ret
     have := @countW_bad bits 1 n c 0 false kids (by rw [okW, if_pos rfl, H1.out]) (by simp)
     rw [this]
     exact ⟨rfl, hC5.out⟩
    | true =>
     by_cases t2 : (kids.length : Int) = 0
     ·have T2 := Aside0.mk t2
      obtain ⟨q1, q2, q3, q4, q5, q6⟩ := H.out
      have hcall := countW_kids bits (wrap64 (c + 1)) kids A2 c2 g B w0 w W3 q1 q2 q3 q4 hC5.out hYb hYc q5 q6
      clear q1 q2 q3 q4 q5 q6
      have hres := Aside0.mk (@countW_good bits 1 n c 0 kids (by rw [okW, if_pos rfl, H1.out]) t1 t2)
      generalize countWs bits kids (wrap64 (c + 1)) = q at hcall hres
      obtain ⟨r1, r2⟩ := q
      simp only at hcall
      go_wp2_with (go_at_call 143; refine hcall.mono ?_; rintro e w' ⟨rfl, hb⟩)
      go_ret
      rw [hres.out]
      exact ⟨by simp, hC5.out.trans hb⟩
     ·go_wp2
      go_ret
      have := @countW_bad bits 1 n c 0 true kids (by rw [okW, if_pos rfl, H1.out]) (by rw [beq_false_of_ne t2]; simp)
      rw [this]
      exact ⟨rfl, hC5.out⟩
  ·by_cases k2 : kind = 2
   ·subst k2
    have hbz : ¬ bits = 0 := by omega
    go_upto_region 8 with fail
    go_quiet ((go_at_call 79; exact Calls.quiet_of_same (within_any _ _ _ _)))
    go_upto_region 12 with fail
    have hC5 := Aside0.mk (CB.below hC4.out (w2 := W2.drewN nq) ⟨rfl, rfl, rfl, Nat.le_refl _, fun _ _ => rfl⟩)
    replace hY0 : (W2.drewN nq).cell? ⟨B, 0, none⟩ = some (.int .i64 2) := hY0
    replace hY2 : (W2.drewN nq).cell? ⟨B, 2, none⟩ = some (.slice A2 kids.length c2) := hY2
    replace hYb : (W2.drewN nq).cell? ⟨B + 1, 0, none⟩ = some (.int .i64 bits) := hYb
    replace hYc : (W2.drewN nq).cell? ⟨B + 1 + 1, 0, none⟩ = some (.pointer (some ⟨g, 0, none⟩)) := hYc
    replace hYg : (W2.drewN nq).cell? ⟨g, 0, none⟩ = some (.int .i64 (wrap64 (c + 1))) := hYg
    clear hY1 hC4
    generalize W2.drewN nq = W3 at *
    generalize hok : (decide (0 ≤ n) && decide (n ≤ wrap64 (12 / bits - 1))) = okb
    have H1 := Aside0.mk hok
    clear hok
    by_cases t1 : wrap64 (c + 1) > 9
    ·go_wp2
     go_ret
     have := @countW_bad bits 2 n c 0 okb kids (by rw [okW, if_neg (by decide), if_pos rfl, H1.out]) (by simp [t1])
     rw [this]
     exact ⟨rfl, hC5.out⟩
    ·have T1 := Aside0.mk t1
     cases okb with
     | false =>
      go_wp2
      go_ret
      have := @countW_bad bits 2 n c 0 false kids (by rw [okW, if_neg (by decide), if_pos rfl, H1.out]) (by simp)
      rw [this]
      exact ⟨rfl, hC5.out⟩
     | true =>
      by_cases t2 : (kids.length : Int) = 0
      ·have T2 := Aside0.mk t2
       obtain ⟨q1, q2, q3, q4, q5, q6⟩ := H.out
       have hcall := countW_kids bits (wrap64 (c + 1)) kids A2 c2 g B w0 w W3 q1 q2 q3 q4 hC5.out hYb hYc q5 q6
       clear q1 q2 q3 q4 q5 q6
       have hres := Aside0.mk (@countW_good bits 2 n c 0 kids (by rw [okW, if_neg (by decide), if_pos rfl, H1.out]) t1 t2)
       generalize countWs bits kids (wrap64 (c + 1)) = q at hcall hres
       obtain ⟨r1, r2⟩ := q
       simp only at hcall
       go_wp2_with (go_at_call 143; refine hcall.mono ?_; rintro e w' ⟨rfl, hb⟩)
       go_ret
       rw [hres.out]
       exact ⟨by simp, hC5.out.trans hb⟩
      ·go_wp2
       go_ret
       have := @countW_bad bits 2 n c 0 true kids (by rw [okW, if_neg (by decide), if_pos rfl, H1.out]) (by rw [beq_false_of_ne t2]; simp)
       rw [this]
       exact ⟨rfl, hC5.out⟩
   ·by_cases kk3 : kind = 3
    ·subst kk3
     go_upto_region 12 with fail
     have hC5 := hC4
     generalize W2 = W3 at *
     generalize hok : (n == 0) = okb
     have H1 := Aside0.mk hok
     clear hok
     by_cases t1 : wrap64 (c + 1) > 9
     ·go_wp2
      go_ret
      have := @countW_bad bits 3 n c 2 okb kids (by rw [okW, if_neg (by decide), if_neg (by decide), if_pos rfl, H1.out]) (by simp [t1])
      rw [this]
      exact ⟨rfl, hC5.out⟩
     ·have T1 := Aside0.mk t1
      cases okb with
      | false =>
       go_wp2
       go_ret
       have := @countW_bad bits 3 n c 2 false kids (by rw [okW, if_neg (by decide), if_neg (by decide), if_pos rfl, H1.out]) (by simp)
       rw [this]
       exact ⟨rfl, hC5.out⟩
      | true =>
       by_cases t2 : (kids.length : Int) = 2
       ·have T2 := Aside0.mk t2
        obtain ⟨q1, q2, q3, q4, q5, q6⟩ := H.out
        have hcall := countW_kids bits (wrap64 (c + 1)) kids A2 c2 g B w0 w W3 q1 q2 q3 q4 hC5.out hYb hYc q5 q6
        clear q1 q2 q3 q4 q5 q6
        have hres := Aside0.mk (@countW_good bits 3 n c 2 kids (by rw [okW, if_neg (by decide), if_neg (by decide), if_pos rfl, H1.out]) t1 t2)
        generalize countWs bits kids (wrap64 (c + 1)) = q at hcall hres
        obtain ⟨r1, r2⟩ := q
        simp only at hcall
        go_wp2_with (go_at_call 143; refine hcall.mono ?_; rintro e w' ⟨rfl, hb⟩)
        go_ret
        rw [hres.out]
        exact ⟨by simp, hC5.out.trans hb⟩
       ·go_wp2
        go_ret
        have := @countW_bad bits 3 n c 2 true kids (by rw [okW, if_neg (by decide), if_neg (by decide), if_pos rfl, H1.out]) (by rw [beq_false_of_ne t2]; simp)
        rw [this]
        exact ⟨rfl, hC5.out⟩
    ·by_cases k4 : kind = 4
     ·subst k4
      go_upto_region 12 with fail
      have hC5 := hC4
      generalize W2 = W3 at *
      generalize hok : (n == 0) = okb
      have H1 := Aside0.mk hok
      clear hok
      by_cases t1 : wrap64 (c + 1) > 9
      ·go_wp2
       go_ret
       have := @countW_bad bits 4 n c 2 okb kids (by rw [okW, if_neg (by decide), if_neg (by decide), if_neg (by decide), if_pos rfl, H1.out]) (by simp [t1])
       rw [this]
       exact ⟨rfl, hC5.out⟩
      ·have T1 := Aside0.mk t1
       cases okb with
       | false =>
        go_wp2
        go_ret
        have := @countW_bad bits 4 n c 2 false kids (by rw [okW, if_neg (by decide), if_neg (by decide), if_neg (by decide), if_pos rfl, H1.out]) (by simp)
        rw [this]
        exact ⟨rfl, hC5.out⟩
       | true =>
        by_cases t2 : (kids.length : Int) = 2
        ·have T2 := Aside0.mk t2
         obtain ⟨q1, q2, q3, q4, q5, q6⟩ := H.out
         have hcall := countW_kids bits (wrap64 (c + 1)) kids A2 c2 g B w0 w W3 q1 q2 q3 q4 hC5.out hYb hYc q5 q6
         clear q1 q2 q3 q4 q5 q6
         have hres := Aside0.mk (@countW_good bits 4 n c 2 kids (by rw [okW, if_neg (by decide), if_neg (by decide), if_neg (by decide), if_pos rfl, H1.out]) t1 t2)
         generalize countWs bits kids (wrap64 (c + 1)) = q at hcall hres
         obtain ⟨r1, r2⟩ := q
         simp only at hcall
         go_wp2_with (go_at_call 143; refine hcall.mono ?_; rintro e w' ⟨rfl, hb⟩)
         go_ret
         rw [hres.out]
         exact ⟨by simp, hC5.out.trans hb⟩
        ·go_wp2
         go_ret
         have := @countW_bad bits 4 n c 2 true kids (by rw [okW, if_neg (by decide), if_neg (by decide), if_neg (by decide), if_pos rfl, H1.out]) (by rw [beq_false_of_ne t2]; simp)
         rw [this]
         exact ⟨rfl, hC5.out⟩
     ·by_cases k5 : kind = 5
      ·subst k5
       go_upto_region 12 with fail
       have hC5 := hC4
       generalize W2 = W3 at *
       generalize hok : (n == 0) = okb
       have H1 := Aside0.mk hok
       clear hok
       by_cases t1 : wrap64 (c + 1) > 9
       ·go_wp2
        go_ret
        have := @countW_bad bits 5 n c 2 okb kids (by rw [okW, if_neg (by decide), if_neg (by decide), if_neg (by decide), if_neg (by decide), if_pos rfl, H1.out]) (by simp [t1])
        rw [this]
        exact ⟨rfl, hC5.out⟩
       ·have T1 := Aside0.mk t1
        cases okb with
        | false =>
         go_wp2
         go_ret
         have := @countW_bad bits 5 n c 2 false kids (by rw [okW, if_neg (by decide), if_neg (by decide), if_neg (by decide), if_neg (by decide), if_pos rfl, H1.out]) (by simp)
         rw [this]
         exact ⟨rfl, hC5.out⟩
        | true =>
         by_cases t2 : (kids.length : Int) = 2
         ·have T2 := Aside0.mk t2
          obtain ⟨q1, q2, q3, q4, q5, q6⟩ := H.out
          have hcall := countW_kids bits (wrap64 (c + 1)) kids A2 c2 g B w0 w W3 q1 q2 q3 q4 hC5.out hYb hYc q5 q6
          clear q1 q2 q3 q4 q5 q6
          have hres := Aside0.mk (@countW_good bits 5 n c 2 kids (by rw [okW, if_neg (by decide), if_neg (by decide), if_neg (by decide), if_neg (by decide), if_pos rfl, H1.out]) t1 t2)
          generalize countWs bits kids (wrap64 (c + 1)) = q at hcall hres
          obtain ⟨r1, r2⟩ := q
          simp only at hcall
          go_wp2_with (go_at_call 143; refine hcall.mono ?_; rintro e w' ⟨rfl, hb⟩)
          go_ret
          rw [hres.out]
          exact ⟨by simp, hC5.out.trans hb⟩
         ·go_wp2
          go_ret
          have := @countW_bad bits 5 n c 2 true kids (by rw [okW, if_neg (by decide), if_neg (by decide), if_neg (by decide), if_neg (by decide), if_pos rfl, H1.out]) (by rw [beq_false_of_ne t2]; simp)
          rw [this]
          exact ⟨rfl, hC5.out⟩
      ·go_wp2
       go_ret
       rw [countW_none (by simp [okW, k1, k2, kk3, k4, k5])]
       exact ⟨rfl, hC4.out⟩
def impl_isWord.f (a0_0 a0_1 : Int) (l0_2 : List (S81)) (a1 : Int) : Option Bool := if decide (1 ≤ a1) && decide (a1 ≤ 6) then some (countW a1 ⟨a0_0, a0_1, l0_2⟩ 0).1 else some false
theorem within_is (a lo hi : Int) (b : Bool) (h : (decide (lo ≤ a) && decide (a ≤ hi)) = b) (w : World) : Calls Try.prog 79 #[.int .i64 a, .int .i64 lo, .int .i64 hi] w fun e w' => e = .returned (.bool b) ∧ w' = w := by
 subst h
 exact within_any a lo hi w
theorem heap2 (w : World) (a b : Obj) : ((w.alloc a).alloc b).heap[w.heap.size + 1]? = some b := by
 show ((w.heap.push a).push b)[w.heap.size + 1]? = some b
 rw [Array.getElem?_push]
 simp
theorem below2 (w : World) (a b : Obj) : Below w.heap.size w ((w.alloc a).alloc b) := by
 have h1 := (Below.refl w.heap.size w).alloc (Nat.le_refl _) a
 exact h1.alloc h1.size b
set_option maxHeartbeats 4000000 in
set_option maxRecDepth 100000 in
theorem impl_isWord.calls (a0_0 : Int) (a0_1 : Int) (A0_2 : Option Addr) (c0_2 : Nat) (l0_2 : List (S81)) (a1 : Int) (r : Bool) (w : World) (hr0_2 : Kd.C k81 w A0_2 l0_2.length l0_2) (hc0_2 : l0_2.length ≤ c0_2) (h : impl_isWord.f a0_0 a0_1 l0_2 a1 = some r) :
  Calls Try.prog 103 #[.agg #[.int .i64 a0_0, .int .i64 a0_1, .slice A0_2 l0_2.length c0_2], .int .i64 a1] w fun e w' => e = .returned (.bool r) ∧ Below w.heap.size w w' := by
 unfold impl_isWord.f at h
 by_cases hb1 : 1 ≤ a1
 ·by_cases hb2 : a1 ≤ 6
  ·rw [decide_eq_true hb1, decide_eq_true hb2] at h
   have hrr : (countW a1 ⟨a0_0, a0_1, l0_2⟩ 0).1 = r := by simpa using h
   have hB := below2 w (.cells #[.int .i64 a0_0, .int .i64 a0_1, .slice A0_2 l0_2.length c0_2] 81) (.cells #[.int .i64 0] 3)
   have hwi := within_is a1 1 6 true (by simp [hb1, hb2])
   have hcall := countW_calls a1 hb1 hb2 _ ⟨a0_0, a0_1, l0_2⟩ (Nat.lt_succ_self _) 0 A0_2 c0_2 (w.heap.size + 1) w ((w.alloc (.cells #[.int .i64 a0_0, .int .i64 a0_1, .slice A0_2 l0_2.length c0_2] 81)).alloc (.cells #[.int .i64 0] 3)) hr0_2 hc0_2 hB (by omega) (heap2 w _ _)
   rw [hrr] at hcall
   have HB := Aside0.mk hB
   clear h hr0_2 hc0_2 hrr hb1 hb2 hB
   go_enter Try.func103, Try.ntmps103
   go_wp2_with (first | (go_at_call 79; refine (hwi _).mono ?_; rintro e w' ⟨rfl, rfl⟩) | (go_at_call 130; refine hcall.mono ?_; rintro e w' ⟨rfl, hb⟩))
   go_ret
   exact ⟨rfl, hb.base HB.out (by omega)⟩
  ·rw [decide_eq_false hb2] at h
   have hrr : false = r := by simpa using h
   subst hrr
   have hB := Aside0.mk (below2 w (.cells #[.int .i64 a0_0, .int .i64 a0_1, .slice A0_2 l0_2.length c0_2] 81) (.cells #[.int .i64 0] 3))
   have hwi := within_is a1 1 6 false (by simp [hb2])
   clear h hr0_2 hc0_2 hb1 hb2
   go_enter Try.func103, Try.ntmps103
   go_wp2_with (go_at_call 79; refine (hwi _).mono ?_; rintro e w' ⟨rfl, rfl⟩)
   go_ret
   exact ⟨rfl, hB.out⟩
 ·rw [decide_eq_false hb1] at h
  have hrr : false = r := by simpa using h
  subst hrr
  have hB := Aside0.mk (below2 w (.cells #[.int .i64 a0_0, .int .i64 a0_1, .slice A0_2 l0_2.length c0_2] 81) (.cells #[.int .i64 0] 3))
  have hwi := within_is a1 1 6 false (by simp [hb1])
  clear h hr0_2 hc0_2 hb1
  go_enter Try.func103, Try.ntmps103
  go_wp2_with (go_at_call 79; refine (hwi _).mono ?_; rintro e w' ⟨rfl, rfl⟩)
  go_ret
  exact ⟨rfl, hB.out⟩
mutual
def impl_cloneEx.l0 : Nat → List (S31) → List (S31) → Int → Int → Int → Int → List (S31) → Option (Int × Int × (List (S31)))
 | 0, _, _, _, _, _, _, _ => none
 | k + 1, x3, x7, x8, x9, x204000, x204001, x204002 => if x9 < x8 then (if 0 ≤ x9 then (if x9 < (x7.length : Int) then ((impl_cloneEx.f k ((rd_T31 x7 x9).f0) ((rd_T31 x7 x9).f1) ((rd_T31 x7 x9).f2)).bind fun bt207 => (if x3.length < 3518437208883 then (impl_cloneEx.l0 k (x3 ++ [(⟨bt207.1, bt207.2.1, bt207.2.2⟩ : S31)]) x7 x8 (wrap64 (x9 + 1)) x204000 x204001 x204002) else (none))) else (none)) else (none)) else (some (x204000, x204001, x3))
def impl_cloneEx.f : Nat → Int → Int → List (S31) → Option (Int × Int × (List (S31)))
 | 0, _, _, _ => none
 | k + 1, a0_0, a0_1, l0_2 => impl_cloneEx.l0 k ([] : List (S31)) l0_2 (l0_2.length : Int) 0 a0_0 a0_1 l0_2
end
set_option maxHeartbeats 8000000 in
set_option maxRecDepth 100000 in
theorem cloneS.calls (k : Nat) : ∀ (a0_0 : Int) (a0_1 : Int) (A0_2 : Option Addr) (c0_2 : Nat) (l0_2 : List (S31)) (r1 : Int) (r2 : Int) (r3 : List (S31)) (w : World) (hr0_2 : Kd.C k31 w A0_2 l0_2.length l0_2) (hc0_2 : l0_2.length ≤ c0_2) (h : impl_cloneEx.f k a0_0 a0_1 l0_2 = some (r1, r2, r3)),
  Calls Try.prog 122 #[.agg #[.int .i64 a0_0, .int .i64 a0_1, .slice A0_2 l0_2.length c0_2]] w fun e w' => ∃ v2_ : Value, e = .returned (.agg #[.int .i64 r1, .int .i64 r2, v2_]) ∧ Kd.S kS31 31 w' w.heap.size (fun _ => True) v2_ r3 ∧ Below w.heap.size w w' := by
 induction k using Nat.strongRecOn with
 | _ k ih =>
 intro a0_0 a0_1 A0_2 c0_2 l0_2 r1 r2 r3 w hr0_2 hc0_2 h
 cases k with
 | zero => exact absurd h (by simp [impl_cloneEx.f])
 | succ k =>
 simp only [impl_cloneEx.f] at h
 have hu31 := Try.underlying31
 have HR0_2 := Aside0.mk hr0_2
 have HC0_2 := Aside0.mk hc0_2
 clear hr0_2 hc0_2
 have HB := Aside0.mk (Below.refl w.heap.size w)
 have H : (impl_cloneEx.l0 k ([] : List (S31)) l0_2 (l0_2.length : Int) 0 a0_0 a0_1 l0_2) = some (r1, r2, r3) := h
 clear h
 have H' := Aside0.mk H
 clear H
 go_enter Try.func122, Try.ntmps122
 go_wp2_with (first | ((with_reducible refine gate_dst (N := 1) rfl ?_); refine box_event ?hg (N := 1) ?hd (cs := #[.int .i64 a0_0, .int .i64 a0_1, .slice A0_2 l0_2.length c0_2]) (t := 31) ?hr ?_; (case hd => rfl); (case hg => rfl); (case hr => first | (go_simp; done) | (go_simp; rfl)); intro gb199 hg w2 hbox hb; have n0_ := Aside0.mk (below_step (by repeat (first | (with_reducible first | exact HB.out | apply below_alloc | apply pw_below_drewN | apply below_drew1) | exact HB.out)) hb); have n1_ := Aside0.mk (hbox); have n2_ := Aside0.mk ((by rw [hg]; exact (below_size (by repeat (first | (with_reducible first | exact HB.out | apply below_alloc | apply pw_below_drewN | apply below_drew1) | exact HB.out))) : w.heap.size ≤ gb199)); have n3_ := Aside0.mk ((by rw [hg]; exact (below_size (by repeat (first | (with_reducible first | exact HB.out | apply below_alloc | apply pw_below_drewN | apply below_drew1) | exact HB.out))) : w.heap.size ≤ gb199)); clear HB; have HB := n0_; have BK199 := n1_; have GW199 := n2_; have GE199 := n3_; clear n0_ n1_ n2_ n3_; clear hb hbox hg) | ((with_reducible refine gate_dst (N := 2) rfl ?_); refine box_event ?hg (N := 2) ?hd (cs := #[.int .i64 0, .int .i64 0, .slice none 0 0]) (t := 31) ?hr ?_; (case hd => rfl); (case hg => rfl); (case hr => first | (go_simp; done) | (go_simp; rfl)); intro gb200 hg w3 hbox hb; have n0_ := Aside0.mk (blk_below (g := gb199) (o := .cells #[.int .i64 a0_0, .int .i64 a0_1, .slice A0_2 l0_2.length c0_2] 31 (0, 0)) (by (with_reducible repeat (first | refine blk_drewN ?_ _ | refine blk_drew ?_ | refine blk_alloc ?_ _)); exact BK199.out) hb); have n1_ := Aside0.mk (below_step (by repeat (first | (with_reducible first | exact HB.out | apply below_alloc | apply pw_below_drewN | apply below_drew1 | refine below_set ?_ GE199.out) | exact HB.out)) hb); have n2_ := Aside0.mk (hbox); have n3_ := Aside0.mk ((by rw [hg]; exact (below_size (by repeat (first | (with_reducible first | exact HB.out | apply below_alloc | apply pw_below_drewN | apply below_drew1 | refine below_set ?_ GE199.out) | exact HB.out))) : w.heap.size ≤ gb200)); have n4_ := Aside0.mk ((by rw [hg]; exact (below_size (by repeat (first | (with_reducible first | exact HB.out | apply below_alloc | apply pw_below_drewN | apply below_drew1 | refine below_set ?_ GE199.out) | exact HB.out))) : w.heap.size ≤ gb200)); have n5_ := Aside0.mk ((by rw [hg]; exact Nat.ne_of_lt (blk_lt (g := gb199) (o := .cells #[.int .i64 a0_0, .int .i64 a0_1, .slice A0_2 l0_2.length c0_2] 31 (0, 0)) (by (with_reducible repeat (first | refine blk_drewN ?_ _ | refine blk_drew ?_ | refine blk_alloc ?_ _)); exact BK199.out)) : gb199 ≠ gb200)); have n6_ := Aside0.mk ((by rw [hg]; exact Nat.ne_of_gt (blk_lt (g := gb199) (o := .cells #[.int .i64 a0_0, .int .i64 a0_1, .slice A0_2 l0_2.length c0_2] 31 (0, 0)) (by (with_reducible repeat (first | refine blk_drewN ?_ _ | refine blk_drew ?_ | refine blk_alloc ?_ _)); exact BK199.out)) : gb200 ≠ gb199)); clear BK199; clear HB; have BK199 := n0_; have HB := n1_; have BK200 := n2_; have GW200 := n3_; have GE200 := n4_; have NB199_200 := n5_; have NB200_199 := n6_; clear n0_ n1_ n2_ n3_ n4_ n5_ n6_; clear hb hbox hg; have hnb4 := NB199_200.out; have hnc4 := NB200_199.out; have hcz5_0 : w3.cell? ⟨gb199, 0, none⟩ = some (.int .i64 a0_0) := (blk_cell BK199.out 0).trans rfl; have hcz5_1 : w3.cell? ⟨gb199, 1, none⟩ = some (.int .i64 a0_1) := (blk_cell BK199.out 1).trans rfl; have hcz5_2 : w3.cell? ⟨gb199, 2, none⟩ = some (.slice A0_2 l0_2.length c0_2) := (blk_cell BK199.out 2).trans rfl; have hfz5_0 := blk_frozen BK199.out 0; have hfz5_1 := blk_frozen BK199.out 1; have hfz5_2 := blk_frozen BK199.out 2))
 go_loopg [3, 9] k (fun kq v3 v9 w' => ∃ (x3_1 : List (S31)) (x9_1 : Int), v9 = .int .i64 x9_1 ∧ Aside0 (impl_cloneEx.l0 kq x3_1 l0_2 (l0_2.length : Int) x9_1 a0_0 a0_1 l0_2 = some (r1, r2, r3)) ∧ Aside0 (kq ≤ k) ∧ Aside0 (Kd.S kS31 31 w' w.heap.size (fun k_ => k_ ≠ gb199 ∧ k_ ≠ gb200) v3 x3_1) ∧ Aside0 (w'.heap[gb199]? = some (.cells #[.int .i64 a0_0, .int .i64 a0_1, (.slice A0_2 l0_2.length c0_2)] 31 (0, 0))) ∧ Aside0 (w'.heap[gb200]? = some (.cells #[.int .i64 0, .int .i64 0, (.slice none 0 0)] 31 (0, 0))) ∧ Aside0 (Below w.heap.size w w'))
 case atStart => exact ⟨(([] : List (S31))), (0), (by first | rfl | (simp; done) | (simp [*]; done)), H', ⟨Nat.le_refl _⟩, ⟨by first | exact Kd.S_nil _ _ _ _ _ | exact Kd.N_nil _ _ _ _ _ | exact Kd.V_nil _ _ _ _ _ | exact Kd.Q_nil _ _ _ _ _ | exact Kd.S_nil _ _ _ _ _⟩, ⟨by (with_reducible repeat (first | refine blk_drewN ?_ _ | refine blk_drew ?_ | refine blk_alloc ?_ _)); exact BK199.out⟩, ⟨by (with_reducible repeat (first | refine blk_drewN ?_ _ | refine blk_drew ?_ | refine blk_alloc ?_ _)); exact BK200.out⟩, ⟨by repeat (first | (with_reducible first | exact HB.out | apply below_alloc | apply pw_below_drewN | apply below_drew1 | refine below_set ?_ GE199.out | refine below_set ?_ GE200.out) | exact HB.out)⟩⟩
 case round =>
  clear H'
  try clear c1
  try clear p2
  try clear c4
  try clear hcz5_0
  try clear hcz5_1
  try clear hcz5_2
  try clear hfz5_0
  try clear hfz5_1
  try clear hfz5_2
  obtain ⟨x3_1, x9_1, rfl, HA, HK1, HO_3, BK199, BK200, HB⟩ := hrel
  cases gk with
  | zero => exact absurd HA.out (by simp [impl_cloneEx.l0])
  | succ k1 =>
   have H := HA.out
   clear HA
   simp only [impl_cloneEx.l0] at H
   by_cases c6 : x9_1 < (l0_2.length : Int)
   ·rw [if_pos c6] at H
    have c6b0 : decide (x9_1 < (l0_2.length : Int)) = true := decide_eq_true c6
    clear c6
    by_cases c7 : 0 ≤ x9_1
    ·rw [if_pos c7] at H
     have c7b0 : decide (0 ≤ x9_1) = true := decide_eq_true c7
     clear c7
     by_cases c8 : x9_1 < (l0_2.length : Int)
     ·rw [if_pos c8] at H
      have c8b0 : decide (x9_1 < (l0_2.length : Int)) = true := decide_eq_true c8
      clear c8
      replace H := Option.bind_eq_some_iff.mp H
      obtain ⟨⟨t203, t204, t205⟩, A90, H⟩ := H
      replace H : (if x3_1.length < 3518437208883 then (impl_cloneEx.l0 k1 (x3_1 ++ [(⟨t203, t204, t205⟩ : S31)]) l0_2 (l0_2.length : Int) (wrap64 (x9_1 + 1)) a0_0 a0_1 l0_2) else (none)) = some (r1, r2, r3) := H
      have A9 := Aside0.mk A90
      clear A90
      by_cases c10 : x3_1.length < 3518437208883
      ·rw [if_pos c10] at H
       have LMc10 := Aside0.mk c10
       clear c10
       obtain ⟨y208, hy208⟩ : ∃ y_ : List (S31), y_ = (x3_1 ++ [(⟨t203, t204, t205⟩ : S31)]) := ⟨_, rfl⟩
       replace H : (impl_cloneEx.l0 k1 y208 l0_2 (l0_2.length : Int) (wrap64 (x9_1 + 1)) a0_0 a0_1 l0_2) = some (r1, r2, r3) := by first | (rw [hy208]; with_reducible exact H) | (have H2_ := (Option.bind_some _ _).symm.trans H; rw [hy208]; with_reducible exact H2_) | (have H2_ := (Option.bind_some _ _).symm.trans H; with_reducible exact H2_) | with_reducible exact H | (rw [hy208]; exact H) | exact H
       have Ny208 := Aside0.mk hy208
       clear hy208
       have H' := Aside0.mk H
       clear H
       have p201 : 0 ≤ (x9_1 : Int) := of_decide_eq_true (by first | (with_reducible assumption) | assumption)
       have q201 : x9_1 < (l0_2.length : Int) := of_decide_eq_true (by first | (with_reducible assumption) | assumption)
       obtain ⟨ad201, A201_2, c201_2, e201, hx201_0, hx201_1, hx201_2, hl201_2, hi201_2⟩ := at_T31 HR0_2.out x9_1 p201 q201
       cases e201
       replace hx201_0 := (HB.out.cell (World.block_lt_of_cell? w _ hx201_0)).trans hx201_0
       replace hx201_1 := (HB.out.cell (World.block_lt_of_cell? w _ hx201_1)).trans hx201_1
       replace hx201_2 := (HB.out.cell (World.block_lt_of_cell? w _ hx201_2)).trans hx201_2
       have HR201_2 := Aside0.mk hi201_2
       have HC201_2 := Aside0.mk hl201_2
       clear hi201_2 hl201_2
       replace p201 := eq_true p201
       replace q201 := eq_true q201
       go_wp2_with (first | ((with_reducible refine gate_dst (N := 5) rfl ?_); refine box_event ?hg (N := 5) ?hd (cs := #[.int .i64 0, .int .i64 0, .slice none 0 0]) (t := 31) ?hr ?_; (case hd => rfl); (case hg => rfl); (case hr => first | (go_simp; done) | (go_simp; rfl)); intro gb202 hg w11 hbox hb; have n0_ := Aside0.mk (Kd.S_below (Kd.S_elderB (by (with_reducible repeat (first | apply Kd.S_alloc | apply Kd.S_drewN | apply Kd.S_drew)); exact HO_3.out) gb202 (Nat.le_of_eq hg.symm)) hb); have n1_ := Aside0.mk (blk_below (g := gb199) (o := .cells #[.int .i64 a0_0, .int .i64 a0_1, .slice (some ad201) l0_2.length c0_2] 31 (0, 0)) (by (with_reducible repeat (first | refine blk_drewN ?_ _ | refine blk_drew ?_ | refine blk_alloc ?_ _)); exact BK199.out) hb); have n2_ := Aside0.mk (blk_below (g := gb200) (o := .cells #[.int .i64 0, .int .i64 0, .slice none 0 0] 31 (0, 0)) (by (with_reducible repeat (first | refine blk_drewN ?_ _ | refine blk_drew ?_ | refine blk_alloc ?_ _)); exact BK200.out) hb); have n3_ := Aside0.mk (below_step (by repeat (first | (with_reducible first | exact HB.out | apply below_alloc | apply pw_below_drewN | apply below_drew1 | refine below_set ?_ GE199.out | refine below_set ?_ GE200.out) | exact HB.out)) hb); have n4_ := Aside0.mk (hbox); have n5_ := Aside0.mk ((by rw [hg]; exact (below_size (by repeat (first | (with_reducible first | exact HB.out | apply below_alloc | apply pw_below_drewN | apply below_drew1 | refine below_set ?_ GE199.out | refine below_set ?_ GE200.out) | exact HB.out))) : w.heap.size ≤ gb202)); have n6_ := Aside0.mk ((by rw [hg]; exact (below_size (by repeat (first | (with_reducible first | exact HB.out | apply below_alloc | apply pw_below_drewN | apply below_drew1 | refine below_set ?_ GE199.out | refine below_set ?_ GE200.out) | exact HB.out))) : w.heap.size ≤ gb202)); have n7_ := Aside0.mk ((by rw [hg]; exact Nat.ne_of_lt (blk_lt (g := gb199) (o := .cells #[.int .i64 a0_0, .int .i64 a0_1, .slice (some ad201) l0_2.length c0_2] 31 (0, 0)) (by (with_reducible repeat (first | refine blk_drewN ?_ _ | refine blk_drew ?_ | refine blk_alloc ?_ _)); exact BK199.out)) : gb199 ≠ gb202)); have n8_ := Aside0.mk ((by rw [hg]; exact Nat.ne_of_gt (blk_lt (g := gb199) (o := .cells #[.int .i64 a0_0, .int .i64 a0_1, .slice (some ad201) l0_2.length c0_2] 31 (0, 0)) (by (with_reducible repeat (first | refine blk_drewN ?_ _ | refine blk_drew ?_ | refine blk_alloc ?_ _)); exact BK199.out)) : gb202 ≠ gb199)); have n9_ := Aside0.mk ((by rw [hg]; exact Nat.ne_of_lt (blk_lt (g := gb200) (o := .cells #[.int .i64 0, .int .i64 0, .slice none 0 0] 31 (0, 0)) (by (with_reducible repeat (first | refine blk_drewN ?_ _ | refine blk_drew ?_ | refine blk_alloc ?_ _)); exact BK200.out)) : gb200 ≠ gb202)); have n10_ := Aside0.mk ((by rw [hg]; exact Nat.ne_of_gt (blk_lt (g := gb200) (o := .cells #[.int .i64 0, .int .i64 0, .slice none 0 0] 31 (0, 0)) (by (with_reducible repeat (first | refine blk_drewN ?_ _ | refine blk_drew ?_ | refine blk_alloc ?_ _)); exact BK200.out)) : gb202 ≠ gb200)); clear HO_3; clear BK199; clear BK200; clear HB; have HO_3 := n0_; have BK199 := n1_; have BK200 := n2_; have HB := n3_; have BK202 := n4_; have GW202 := n5_; have GE202 := n6_; have NB199_202 := n7_; have NB202_199 := n8_; have NB200_202 := n9_; have NB202_200 := n10_; clear n0_ n1_ n2_ n3_ n4_ n5_ n6_ n7_ n8_ n9_ n10_; clear hb hbox hg; have hnb12 := NB202_199.out; have hnc12 := NB199_202.out; have hnb13 := NB202_200.out; have hnc13 := NB200_202.out; have hcz14_0 : w11.cell? ⟨gb202, 0, none⟩ = some (.int .i64 0) := (blk_cell BK202.out 0).trans rfl; have hcz14_1 : w11.cell? ⟨gb202, 1, none⟩ = some (.int .i64 0) := (blk_cell BK202.out 1).trans rfl; have hcz14_2 : w11.cell? ⟨gb202, 2, none⟩ = some (.slice none 0 0) := (blk_cell BK202.out 2).trans rfl; have hfz14_0 := blk_frozen BK202.out 0; have hfz14_1 := blk_frozen BK202.out 1; have hfz14_2 := blk_frozen BK202.out 2) | ((with_reducible refine gate_callee (f := 122) rfl ?_); refine goesL_ (some 15) rfl rfl Try.func122 (by kernel_rfl) rfl #[.agg #[.int .i64 ((rd_T31 l0_2 x9_1).f0), .int .i64 ((rd_T31 l0_2 x9_1).f1), .slice A201_2 ((rd_T31 l0_2 x9_1).f2).length c201_2]] rfl (by (try simp only [List.map_toArray, List.map_cons, List.map_nil]); first | done | rfl | (simp only [List.length_drop, List.length_take]; rfl)) ?_; (with_reducible refine (ih k1 (by have := HK1.out; omega) ((rd_T31 l0_2 x9_1).f0) ((rd_T31 l0_2 x9_1).f1) _ _ ((rd_T31 l0_2 x9_1).f2) t203 t204 t205 _ ?side1 ?side2 A9.out).mono ?_); (case side1 => exact Kd.C_below HR201_2.out (by repeat (first | (with_reducible first | exact HB.out | apply below_alloc | apply pw_below_drewN | apply below_drew1 | refine below_set ?_ GE199.out | refine below_set ?_ GE200.out | refine below_set ?_ GE202.out) | exact HB.out))); (case side2 => exact HC201_2.out); rintro e w15 ⟨v206, rfl, ho0, hb⟩; refine ⟨_, rfl, ?_⟩; obtain ⟨N_, hoN_, hel_⟩ := S_tell hb ho0; have n0_ := Aside0.mk (hel_ (by (with_reducible repeat (first | apply Kd.S_alloc | apply Kd.S_drewN | apply Kd.S_drew)); exact (Kd.S_mono (Kd.S_far (p := ⟨gb202, 2, none⟩) (Kd.S_far (p := ⟨gb202, 1, none⟩) (Kd.S_far (p := ⟨gb202, 0, none⟩) (Kd.S_mono HO_3.out (fun k_ hk => (⟨hk, hk.2⟩ : _ ∧ k_ ≠ gb202))) (fun _ hk => hk.2) (.int .i64 ((rd_T31 l0_2 x9_1).f0))) (fun _ hk => hk.2) (.int .i64 ((rd_T31 l0_2 x9_1).f1))) (fun _ hk => hk.2) (.slice A201_2 ((rd_T31 l0_2 x9_1).f2).length c201_2)) (fun _ h_ => h_.1)))); have n1_ := Aside0.mk (Kd.S_lower (Kd.S_newB (Kd.S_newB (Kd.S_newB (Kd.S_new' hoN_ (Kd.S_lt (by (with_reducible repeat (first | apply Kd.S_alloc | apply Kd.S_drewN | apply Kd.S_drew)); exact (Kd.S_mono (Kd.S_far (p := ⟨gb202, 2, none⟩) (Kd.S_far (p := ⟨gb202, 1, none⟩) (Kd.S_far (p := ⟨gb202, 0, none⟩) (Kd.S_mono HO_3.out (fun k_ hk => (⟨hk, hk.2⟩ : _ ∧ k_ ≠ gb202))) (fun _ hk => hk.2) (.int .i64 ((rd_T31 l0_2 x9_1).f0))) (fun _ hk => hk.2) (.int .i64 ((rd_T31 l0_2 x9_1).f1))) (fun _ hk => hk.2) (.slice A201_2 ((rd_T31 l0_2 x9_1).f2).length c201_2)) (fun _ h_ => h_.1))))) (g := gb199) (o := .cells #[.int .i64 a0_0, .int .i64 a0_1, .slice (some ad201) l0_2.length c0_2] 31 (0, 0)) (by (with_reducible repeat (first | refine blk_drewN ?_ _ | refine blk_drew ?_ | refine blk_alloc ?_ _)); refine blk_far ?_ NB199_202.out _; (with_reducible repeat (first | refine blk_drewN ?_ _ | refine blk_drew ?_ | refine blk_alloc ?_ _)); refine blk_far ?_ NB199_202.out _; (with_reducible repeat (first | refine blk_drewN ?_ _ | refine blk_drew ?_ | refine blk_alloc ?_ _)); refine blk_far ?_ NB199_202.out _; (with_reducible repeat (first | refine blk_drewN ?_ _ | refine blk_drew ?_ | refine blk_alloc ?_ _)); exact BK199.out)) (g := gb200) (o := .cells #[.int .i64 0, .int .i64 0, .slice none 0 0] 31 (0, 0)) (by (with_reducible repeat (first | refine blk_drewN ?_ _ | refine blk_drew ?_ | refine blk_alloc ?_ _)); refine blk_far ?_ NB200_202.out _; (with_reducible repeat (first | refine blk_drewN ?_ _ | refine blk_drew ?_ | refine blk_alloc ?_ _)); refine blk_far ?_ NB200_202.out _; (with_reducible repeat (first | refine blk_drewN ?_ _ | refine blk_drew ?_ | refine blk_alloc ?_ _)); refine blk_far ?_ NB200_202.out _; (with_reducible repeat (first | refine blk_drewN ?_ _ | refine blk_drew ?_ | refine blk_alloc ?_ _)); exact BK200.out)) (g := gb202) (o := .cells #[.int .i64 ((rd_T31 l0_2 x9_1).f0), .int .i64 ((rd_T31 l0_2 x9_1).f1), .slice A201_2 ((rd_T31 l0_2 x9_1).f2).length c201_2] 31 (0, 0)) (by (with_reducible repeat (first | refine blk_drewN ?_ _ | refine blk_drew ?_ | refine blk_alloc ?_ _)); refine blk_put (cs := #[.int .i64 ((rd_T31 l0_2 x9_1).f0), .int .i64 ((rd_T31 l0_2 x9_1).f1), .slice none 0 0]) ?_ 2 _ rfl; (with_reducible repeat (first | refine blk_drewN ?_ _ | refine blk_drew ?_ | refine blk_alloc ?_ _)); refine blk_put (cs := #[.int .i64 ((rd_T31 l0_2 x9_1).f0), .int .i64 0, .slice none 0 0]) ?_ 1 _ rfl; (with_reducible repeat (first | refine blk_drewN ?_ _ | refine blk_drew ?_ | refine blk_alloc ?_ _)); refine blk_put (cs := #[.int .i64 0, .int .i64 0, .slice none 0 0]) ?_ 0 _ rfl; (with_reducible repeat (first | refine blk_drewN ?_ _ | refine blk_drew ?_ | refine blk_alloc ?_ _)); exact BK202.out)) (below_size (by repeat (first | (with_reducible first | exact HB.out | apply below_alloc | apply pw_below_drewN | apply below_drew1 | refine below_set ?_ GE199.out | refine below_set ?_ GE200.out | refine below_set ?_ GE202.out) | exact HB.out)))); have n2_ := Aside0.mk (blk_below (g := gb199) (o := .cells #[.int .i64 a0_0, .int .i64 a0_1, .slice (some ad201) l0_2.length c0_2] 31 (0, 0)) (by (with_reducible repeat (first | refine blk_drewN ?_ _ | refine blk_drew ?_ | refine blk_alloc ?_ _)); refine blk_far ?_ NB199_202.out _; (with_reducible repeat (first | refine blk_drewN ?_ _ | refine blk_drew ?_ | refine blk_alloc ?_ _)); refine blk_far ?_ NB199_202.out _; (with_reducible repeat (first | refine blk_drewN ?_ _ | refine blk_drew ?_ | refine blk_alloc ?_ _)); refine blk_far ?_ NB199_202.out _; (with_reducible repeat (first | refine blk_drewN ?_ _ | refine blk_drew ?_ | refine blk_alloc ?_ _)); exact BK199.out) hb); have n3_ := Aside0.mk (blk_below (g := gb200) (o := .cells #[.int .i64 0, .int .i64 0, .slice none 0 0] 31 (0, 0)) (by (with_reducible repeat (first | refine blk_drewN ?_ _ | refine blk_drew ?_ | refine blk_alloc ?_ _)); refine blk_far ?_ NB200_202.out _; (with_reducible repeat (first | refine blk_drewN ?_ _ | refine blk_drew ?_ | refine blk_alloc ?_ _)); refine blk_far ?_ NB200_202.out _; (with_reducible repeat (first | refine blk_drewN ?_ _ | refine blk_drew ?_ | refine blk_alloc ?_ _)); refine blk_far ?_ NB200_202.out _; (with_reducible repeat (first | refine blk_drewN ?_ _ | refine blk_drew ?_ | refine blk_alloc ?_ _)); exact BK200.out) hb); have n4_ := Aside0.mk (blk_below (g := gb202) (o := .cells #[.int .i64 ((rd_T31 l0_2 x9_1).f0), .int .i64 ((rd_T31 l0_2 x9_1).f1), .slice A201_2 ((rd_T31 l0_2 x9_1).f2).length c201_2] 31 (0, 0)) (by (with_reducible repeat (first | refine blk_drewN ?_ _ | refine blk_drew ?_ | refine blk_alloc ?_ _)); refine blk_put (cs := #[.int .i64 ((rd_T31 l0_2 x9_1).f0), .int .i64 ((rd_T31 l0_2 x9_1).f1), .slice none 0 0]) ?_ 2 _ rfl; (with_reducible repeat (first | refine blk_drewN ?_ _ | refine blk_drew ?_ | refine blk_alloc ?_ _)); refine blk_put (cs := #[.int .i64 ((rd_T31 l0_2 x9_1).f0), .int .i64 0, .slice none 0 0]) ?_ 1 _ rfl; (with_reducible repeat (first | refine blk_drewN ?_ _ | refine blk_drew ?_ | refine blk_alloc ?_ _)); refine blk_put (cs := #[.int .i64 0, .int .i64 0, .slice none 0 0]) ?_ 0 _ rfl; (with_reducible repeat (first | refine blk_drewN ?_ _ | refine blk_drew ?_ | refine blk_alloc ?_ _)); exact BK202.out) hb); have n5_ := Aside0.mk (below_step (by repeat (first | (with_reducible first | exact HB.out | apply below_alloc | apply pw_below_drewN | apply below_drew1 | refine below_set ?_ GE199.out | refine below_set ?_ GE200.out | refine below_set ?_ GE202.out) | exact HB.out)) hb); clear HO_3; clear BK199; clear BK200; clear BK202; clear HB; have HO_3 := n0_; have HO207 := n1_; have BK199 := n2_; have BK200 := n3_; have BK202 := n4_; have HB := n5_; clear n0_ n1_ n2_ n3_ n4_ n5_; (try clear hb); (try clear hb2); (try clear hk); (try clear hi); (try clear ho0); obtain ⟨Ao17, co17, eo17⟩ := Kd.S_slice HO207.out; subst eo17) | ((with_reducible refine gate_builtin (b := .append) (xs := #[.tmp 13, .tmp 16]) rfl ?_); at_builtin; refine Kd.S_append kS31 (w0 := w) w.heap.size rfl (.tmp 13) (.tmp 16) 29 31 (.agg #[(.int .i64 0), (.int .i64 0), (.slice none 0 0)]) 40 rfl Try.underlying29 info31 rfl (by decide) (by omega) u3 x3_1 (⟨t203, t204, t205⟩ : S31) [.int .i64 t203, .int .i64 t204, .slice Ao17 t205.length co17] (fun k_ => k_ ≠ gb199 ∧ k_ ≠ gb200 ∧ k_ ≠ gb202) (fun k_ => (((fun k_ => k_ ≠ gb199 ∧ k_ ≠ gb200 ∧ k_ ≠ gb202)) k_ ∧ some k_ ≠ (u3 : Value).ownBlock) ∧ N_ ≤ k_) rfl rfl ?aP (fun _ hk => hk.1) ?aF ?aO ?aB ?aS ?aL ?_; (case aP => exact kS31_mkM _ _ _ (⟨t203, t204, t205⟩ : S31) (Kd.S_mono (HO207.out) (fun k_ hk => ⟨⟨⟨hk.1.1.2, ⟨hk.1.2, hk.2⟩⟩, hk.1.1.1.2⟩, hk.1.1.1.1.2⟩))); (case aB => exact (by repeat (first | (with_reducible first | exact HB.out | apply below_alloc | apply pw_below_drewN | apply below_drew1 | refine below_set ?_ GE199.out | refine below_set ?_ GE200.out | refine below_set ?_ GE202.out) | exact HB.out))); (case aF => exact (fun k_ hk => ⟨Kd.freshB (g := gb199) (o := .cells #[.int .i64 a0_0, .int .i64 a0_1, .slice (some ad201) l0_2.length c0_2] 31 (0, 0)) (by (with_reducible repeat (first | refine blk_drewN ?_ _ | refine blk_drew ?_ | refine blk_alloc ?_ _)); exact BK199.out) k_ hk, Kd.freshB (g := gb200) (o := .cells #[.int .i64 0, .int .i64 0, .slice none 0 0] 31 (0, 0)) (by (with_reducible repeat (first | refine blk_drewN ?_ _ | refine blk_drew ?_ | refine blk_alloc ?_ _)); exact BK200.out) k_ hk, Kd.freshB (g := gb202) (o := .cells #[.int .i64 ((rd_T31 l0_2 x9_1).f0), .int .i64 ((rd_T31 l0_2 x9_1).f1), .slice A201_2 ((rd_T31 l0_2 x9_1).f2).length c201_2] 31 (0, 0)) (by (with_reducible repeat (first | refine blk_drewN ?_ _ | refine blk_drew ?_ | refine blk_alloc ?_ _)); exact BK202.out) k_ hk⟩)); (case aO => exact (by (with_reducible repeat (first | apply Kd.S_alloc | apply Kd.S_drewN | apply Kd.S_drew)); exact Kd.S_mono HO_3.out (fun _ hk => ⟨⟨hk.1.1.1, ⟨hk.1.1.2, hk.1.2⟩⟩, fun h_ => Nat.lt_irrefl _ (Nat.lt_of_lt_of_le hk.2 h_.2)⟩))); (case aS => exact (below_size (by repeat (first | (with_reducible first | exact HB.out | apply below_alloc | apply pw_below_drewN | apply below_drew1 | refine below_set ?_ GE199.out | refine below_set ?_ GE200.out | refine below_set ?_ GE202.out) | exact HB.out)))); (case aL => have := LMc10.out; omega); intro v209 w16 ho hb hg hat; rw [← Ny208.out] at ho; have n0_ := Aside0.mk (blk_grown (g := gb199) (o := .cells #[.int .i64 a0_0, .int .i64 a0_1, .slice (some ad201) l0_2.length c0_2] 31 (0, 0)) (by (with_reducible repeat (first | refine blk_drewN ?_ _ | refine blk_drew ?_ | refine blk_alloc ?_ _)); exact BK199.out) hg (Kd.S_away HO_3.out (fun _ hk => hk.1.1.1))); have n1_ := Aside0.mk (blk_grown (g := gb200) (o := .cells #[.int .i64 0, .int .i64 0, .slice none 0 0] 31 (0, 0)) (by (with_reducible repeat (first | refine blk_drewN ?_ _ | refine blk_drew ?_ | refine blk_alloc ?_ _)); exact BK200.out) hg (Kd.S_away HO_3.out (fun _ hk => hk.1.1.2))); have n2_ := Aside0.mk (blk_grown (g := gb202) (o := .cells #[.int .i64 ((rd_T31 l0_2 x9_1).f0), .int .i64 ((rd_T31 l0_2 x9_1).f1), .slice A201_2 ((rd_T31 l0_2 x9_1).f2).length c201_2] 31 (0, 0)) (by (with_reducible repeat (first | refine blk_drewN ?_ _ | refine blk_drew ?_ | refine blk_alloc ?_ _)); exact BK202.out) hg (Kd.S_away HO_3.out (fun _ hk => hk.1.2))); have n3_ := Aside0.mk (hb); have n4_ := Aside0.mk (ho); clear BK199; clear BK200; clear BK202; clear HB; clear HO_3; clear HO207; have BK199 := n0_; have BK200 := n1_; have BK202 := n2_; have HB := n3_; have HO210 := n4_; clear n0_ n1_ n2_ n3_ n4_; clear ho hb hg hat))
       go_roundg k1
       case measure => have := HK1.out; omega
       case rel => exact ⟨(y208), (wrap64 (x9_1 + 1)), (by first | rfl | (simp; done) | (simp [*]; done)), H', ⟨by have := HK1.out; omega⟩, ⟨by (with_reducible repeat (first | apply Kd.S_alloc | apply Kd.S_drewN | apply Kd.S_drew)); exact Kd.S_mono HO210.out (fun _ hk => ⟨hk.1, hk.2.1⟩)⟩, ⟨by (with_reducible repeat (first | refine blk_drewN ?_ _ | refine blk_drew ?_ | refine blk_alloc ?_ _)); exact BK199.out⟩, ⟨by (with_reducible repeat (first | refine blk_drewN ?_ _ | refine blk_drew ?_ | refine blk_alloc ?_ _)); exact BK200.out⟩, ⟨by repeat (first | (with_reducible first | exact HB.out | apply below_alloc | apply pw_below_drewN | apply below_drew1 | refine below_set ?_ GE199.out | refine below_set ?_ GE200.out | refine below_set ?_ GE202.out) | exact HB.out)⟩⟩
      ·rw [if_neg c10] at H
       exact absurd H (by simp)
     ·rw [if_neg c8] at H
      exact absurd H (by simp)
    ·rw [if_neg c7] at H
     exact absurd H (by simp)
   ·rw [if_neg c6] at H
    have c6b0 : decide (x9_1 < (l0_2.length : Int)) = false := decide_eq_false c6
    clear c6
    simp only [Option.some.injEq, Prod.mk.injEq] at H
    obtain ⟨rfl, rfl, rfl⟩ := H
    obtain ⟨Ao18, co18, eo18⟩ := Kd.S_slice HO_3.out
    subst eo18
    have hnb19 := NB199_200.out
    have hnc19 := NB200_199.out
    have hcz20_0 : wr.cell? ⟨gb199, 0, none⟩ = some (.int .i64 a0_0) := (blk_cell BK199.out 0).trans rfl
    have hcz20_1 : wr.cell? ⟨gb199, 1, none⟩ = some (.int .i64 a0_1) := (blk_cell BK199.out 1).trans rfl
    have hcz20_2 : wr.cell? ⟨gb199, 2, none⟩ = some (.slice A0_2 l0_2.length c0_2) := (blk_cell BK199.out 2).trans rfl
    have hfz20_0 := blk_frozen BK199.out 0
    have hfz20_1 := blk_frozen BK199.out 1
    have hfz20_2 := blk_frozen BK199.out 2
    have hcz21_0 : wr.cell? ⟨gb200, 0, none⟩ = some (.int .i64 0) := (blk_cell BK200.out 0).trans rfl
    have hcz21_1 : wr.cell? ⟨gb200, 1, none⟩ = some (.int .i64 0) := (blk_cell BK200.out 1).trans rfl
    have hcz21_2 : wr.cell? ⟨gb200, 2, none⟩ = some (.slice none 0 0) := (blk_cell BK200.out 2).trans rfl
    have hfz21_0 := blk_frozen BK200.out 0
    have hfz21_1 := blk_frozen BK200.out 1
    have hfz21_2 := blk_frozen BK200.out 2
    go_wp2
    refine bodyPost_ret (results_cell_row rfl _ _ gb200 31 #[.int .i64 a0_0, .int .i64 a0_1, .slice Ao18 x3_1.length co18] (0, 0) _ rfl (by (with_reducible repeat (first | refine blk_drewN ?_ _ | refine blk_drew ?_ | refine blk_alloc ?_ _)); refine blk_put (cs := #[.int .i64 a0_0, .int .i64 a0_1, .slice none 0 0]) ?_ 2 _ rfl; (with_reducible repeat (first | refine blk_drewN ?_ _ | refine blk_drew ?_ | refine blk_alloc ?_ _)); refine blk_put (cs := #[.int .i64 a0_0, .int .i64 0, .slice none 0 0]) ?_ 1 _ rfl; (with_reducible repeat (first | refine blk_drewN ?_ _ | refine blk_drew ?_ | refine blk_alloc ?_ _)); refine blk_put (cs := #[.int .i64 0, .int .i64 0, .slice none 0 0]) ?_ 0 _ rfl; (with_reducible repeat (first | refine blk_drewN ?_ _ | refine blk_drew ?_ | refine blk_alloc ?_ _)); refine blk_far ?_ NB200_199.out _; (with_reducible repeat (first | refine blk_drewN ?_ _ | refine blk_drew ?_ | refine blk_alloc ?_ _)); exact BK200.out) Try.underlying31 rfl (by kernel_rfl)) rfl ?_
    exact ⟨_, by first | rfl | (simp [errW_none, errW_some] <;> rfl) | (simp [*, errW_none, errW_some] <;> rfl), by (with_reducible repeat (first | apply Kd.S_alloc | apply Kd.S_drewN | apply Kd.S_drew)); exact Kd.S_mono (Kd.S_far (p := ⟨gb200, 2, none⟩) (Kd.S_far (p := ⟨gb200, 1, none⟩) (Kd.S_far (p := ⟨gb200, 0, none⟩) (Kd.S_far (p := ⟨gb199, 2, none⟩) (Kd.S_mono (Kd.S_mono HO_3.out (fun k_ hk => (⟨hk, hk.1⟩ : _ ∧ k_ ≠ gb199))) (fun k_ hk => (⟨hk, hk.1.2⟩ : _ ∧ k_ ≠ gb200))) (fun _ hk => hk.1.2) (.slice Ao18 x3_1.length co18)) (fun _ hk => hk.2) (.int .i64 a0_0)) (fun _ hk => hk.2) (.int .i64 a0_1)) (fun _ hk => hk.2) (.slice Ao18 x3_1.length co18)) (fun _ hk => trivial), by repeat (first | (with_reducible first | exact HB.out | apply below_alloc | apply pw_below_drewN | apply below_drew1 | refine below_set ?_ GE199.out | refine below_set ?_ GE200.out) | exact HB.out)⟩
def impl_constEx.f (a0 : Int) : Option (Int × Int × (List (S31))) := some (2, a0, ([] : List (S31)))
set_option maxHeartbeats 8000000 in
set_option maxRecDepth 100000 in
theorem impl_constEx.calls (a0 : Int) (r1 : Int) (r2 : Int) (r3 : List (S31)) (w : World) (h : impl_constEx.f a0 = some (r1, r2, r3)) :
  Calls Try.prog 88 #[.int .i64 a0] w fun e w' => ∃ v2_ : Value, e = .returned (.agg #[.int .i64 r1, .int .i64 r2, v2_]) ∧ Kd.R k31 31 w' w.heap.size (fun _ => True) v2_ r3 ∧ Below w.heap.size w w' := by
 have hu31 := Try.underlying31
 have HB := Aside0.mk (Below.refl w.heap.size w)
 have H : (some (2, a0, ([] : List (S31)))) = some (r1, r2, r3) := h
 clear h
 simp only [Option.some.injEq, Prod.mk.injEq] at H
 obtain ⟨rfl, rfl, rfl⟩ := H
 go_enter Try.func88, Try.ntmps88
 go_wp2_with (first | ((with_reducible refine gate_dst (N := 2) rfl ?_); refine box_event ?hg (N := 2) ?hd (cs := #[.int .i64 0, .int .i64 0, .slice none 0 0]) (t := 31) ?hr ?_; (case hd => rfl); (case hg => rfl); (case hr => first | (go_simp; done) | (go_simp; rfl)); intro gb111 hg w2 hbox hb; have n0_ := Aside0.mk (below_step (by repeat (first | (with_reducible first | exact HB.out | apply below_alloc | apply pw_below_drewN | apply below_drew1) | exact HB.out)) hb); have n1_ := Aside0.mk (hbox); have n2_ := Aside0.mk ((by rw [hg]; exact (below_size (by repeat (first | (with_reducible first | exact HB.out | apply below_alloc | apply pw_below_drewN | apply below_drew1) | exact HB.out))) : w.heap.size ≤ gb111)); have n3_ := Aside0.mk ((by rw [hg]; exact (below_size (by repeat (first | (with_reducible first | exact HB.out | apply below_alloc | apply pw_below_drewN | apply below_drew1) | exact HB.out))) : w.heap.size ≤ gb111)); clear HB; have HB := n0_; have BK111 := n1_; have GW111 := n2_; have GE111 := n3_; clear n0_ n1_ n2_ n3_; clear hb hbox hg; have hcz3_0 : w2.cell? ⟨gb111, 0, none⟩ = some (.int .i64 0) := (blk_cell BK111.out 0).trans rfl; have hcz3_1 : w2.cell? ⟨gb111, 1, none⟩ = some (.int .i64 0) := (blk_cell BK111.out 1).trans rfl; have hcz3_2 : w2.cell? ⟨gb111, 2, none⟩ = some (.slice none 0 0) := (blk_cell BK111.out 2).trans rfl; have hfz3_0 := blk_frozen BK111.out 0; have hfz3_1 := blk_frozen BK111.out 1; have hfz3_2 := blk_frozen BK111.out 2))
 refine bodyPost_ret (results_cell_row rfl _ _ gb111 31 #[.int .i64 2, .int .i64 a0, .slice none 0 0] (0, 0) _ rfl (by (with_reducible repeat (first | refine blk_drewN ?_ _ | refine blk_drew ?_ | refine blk_alloc ?_ _)); refine blk_put (cs := #[.int .i64 2, .int .i64 a0, .slice none 0 0]) ?_ 2 _ rfl; (with_reducible repeat (first | refine blk_drewN ?_ _ | refine blk_drew ?_ | refine blk_alloc ?_ _)); refine blk_put (cs := #[.int .i64 2, .int .i64 0, .slice none 0 0]) ?_ 1 _ rfl; (with_reducible repeat (first | refine blk_drewN ?_ _ | refine blk_drew ?_ | refine blk_alloc ?_ _)); refine blk_put (cs := #[.int .i64 0, .int .i64 0, .slice none 0 0]) ?_ 0 _ rfl; (with_reducible repeat (first | refine blk_drewN ?_ _ | refine blk_drew ?_ | refine blk_alloc ?_ _)); exact BK111.out) Try.underlying31 rfl (by kernel_rfl)) rfl ?_
 exact ⟨_, by first | rfl | (simp [errW_none, errW_some] <;> rfl) | (simp [*, errW_none, errW_some] <;> rfl), by first | exact Kd.R_nil _ _ _ _ _ | exact Kd.N_nil _ _ _ _ _ | exact Kd.V_nil _ _ _ _ _ | exact Kd.Q_nil _ _ _ _ _ | exact Kd.S_nil _ _ _ _ _, by repeat (first | (with_reducible first | exact HB.out | apply below_alloc | apply pw_below_drewN | apply below_drew1 | refine below_set ?_ GE111.out) | exact HB.out)⟩
def impl_ex.f (a0 : Int) (l1 : List (S31)) : Option (Int × Int × (List (S31))) := some (a0, 0, l1)
set_option maxHeartbeats 8000000 in
set_option maxRecDepth 100000 in
theorem impl_ex.calls (a0 : Int) (P1_ : Nat → Prop) (A1 : Option Addr) (c1 : Nat) (l1 : List (S31)) (r1 : Int) (r2 : Int) (r3 : List (S31)) (w : World) (hs1 : Kd.V k31 31 w w.heap.size (fun k_ => P1_ k_) (.slice A1 l1.length c1) l1) (h : impl_ex.f a0 l1 = some (r1, r2, r3)) :
  Calls Try.prog 89 #[.int .i64 a0, .slice A1 l1.length c1] w fun e w' => ∃ v2_ : Value, e = .returned (.agg #[.int .i64 r1, .int .i64 r2, v2_]) ∧ Kd.V k31 31 w' w.heap.size (fun k_ => (P1_ k_ ∨ w.heap.size ≤ k_)) v2_ r3 ∧ Below w.heap.size w w' := by
 have hu31 := Try.underlying31
 have HO1 := Aside0.mk (show Kd.V k31 31 w w.heap.size (fun k_ => (P1_ k_ ∨ w.heap.size ≤ k_)) (.slice A1 l1.length c1) l1 from Kd.V_mono hs1 (fun k_ hk => .inl hk))
 have HB := Aside0.mk (Below.refl w.heap.size w)
 have H : (some (a0, 0, l1)) = some (r1, r2, r3) := h
 clear h
 simp only [Option.some.injEq, Prod.mk.injEq] at H
 obtain ⟨rfl, rfl, rfl⟩ := H
 go_enter Try.func89, Try.ntmps89
 go_wp2_with (first | ((with_reducible refine gate_dst (N := 4) rfl ?_); refine box_event ?hg (N := 4) ?hd (cs := #[.int .i64 0, .int .i64 0, .slice none 0 0]) (t := 31) ?hr ?_; (case hd => rfl); (case hg => rfl); (case hr => first | (go_simp; done) | (go_simp; rfl)); intro gb112 hg w3 hbox hb; have n0_ := Aside0.mk (Kd.V_below (Kd.V_elderB (by (with_reducible repeat (first | apply Kd.V_alloc | apply Kd.V_drewN | apply Kd.V_drew)); exact HO1.out) gb112 (Nat.le_of_eq hg.symm)) hb); have n1_ := Aside0.mk (below_step (by repeat (first | (with_reducible first | exact HB.out | apply below_alloc | apply pw_below_drewN | apply below_drew1) | exact HB.out)) hb); have n2_ := Aside0.mk (hbox); have n3_ := Aside0.mk ((by rw [hg]; exact (below_size (by repeat (first | (with_reducible first | exact HB.out | apply below_alloc | apply pw_below_drewN | apply below_drew1) | exact HB.out))) : w.heap.size ≤ gb112)); have n4_ := Aside0.mk ((by rw [hg]; exact (below_size (by repeat (first | (with_reducible first | exact HB.out | apply below_alloc | apply pw_below_drewN | apply below_drew1) | exact HB.out))) : w.heap.size ≤ gb112)); clear HO1; clear HB; have HO1 := n0_; have HB := n1_; have BK112 := n2_; have GW112 := n3_; have GE112 := n4_; clear n0_ n1_ n2_ n3_ n4_; clear hb hbox hg; have hcz4_0 : w3.cell? ⟨gb112, 0, none⟩ = some (.int .i64 0) := (blk_cell BK112.out 0).trans rfl; have hcz4_1 : w3.cell? ⟨gb112, 1, none⟩ = some (.int .i64 0) := (blk_cell BK112.out 1).trans rfl; have hcz4_2 : w3.cell? ⟨gb112, 2, none⟩ = some (.slice none 0 0) := (blk_cell BK112.out 2).trans rfl; have hfz4_0 := blk_frozen BK112.out 0; have hfz4_1 := blk_frozen BK112.out 1; have hfz4_2 := blk_frozen BK112.out 2))
 refine bodyPost_ret (results_cell_row rfl _ _ gb112 31 #[.int .i64 a0, .int .i64 0, .slice A1 l1.length c1] (0, 0) _ rfl (by (with_reducible repeat (first | refine blk_drewN ?_ _ | refine blk_drew ?_ | refine blk_alloc ?_ _)); refine blk_put (cs := #[.int .i64 a0, .int .i64 0, .slice none 0 0]) ?_ 2 _ rfl; (with_reducible repeat (first | refine blk_drewN ?_ _ | refine blk_drew ?_ | refine blk_alloc ?_ _)); refine blk_put (cs := #[.int .i64 a0, .int .i64 0, .slice none 0 0]) ?_ 1 _ rfl; (with_reducible repeat (first | refine blk_drewN ?_ _ | refine blk_drew ?_ | refine blk_alloc ?_ _)); refine blk_put (cs := #[.int .i64 0, .int .i64 0, .slice none 0 0]) ?_ 0 _ rfl; (with_reducible repeat (first | refine blk_drewN ?_ _ | refine blk_drew ?_ | refine blk_alloc ?_ _)); exact BK112.out) Try.underlying31 rfl (by kernel_rfl)) rfl ?_
 exact ⟨_, by first | rfl | (simp [errW_none, errW_some] <;> rfl) | (simp [*, errW_none, errW_some] <;> rfl), by (with_reducible repeat (first | apply Kd.V_alloc | apply Kd.V_drewN | apply Kd.V_drew)); exact Kd.V_mono (Kd.V_far (p := ⟨gb112, 2, none⟩) (Kd.V_far (p := ⟨gb112, 1, none⟩) (Kd.V_far (p := ⟨gb112, 0, none⟩) (Kd.V_mono HO1.out (fun k_ hk => (⟨hk, hk.2⟩ : _ ∧ k_ ≠ gb112))) (fun _ hk => hk.2) (.int .i64 a0)) (fun _ hk => hk.2) (.int .i64 0)) (fun _ hk => hk.2) (.slice A1 l1.length c1)) (fun _ hk => hk.1.1), by repeat (first | (with_reducible first | exact HB.out | apply below_alloc | apply pw_below_drewN | apply below_drew1 | refine below_set ?_ GE112.out) | exact HB.out)⟩
def spec_l05Const.f (a0 : Int) : Option (Int × Int × (List (S31))) := some (2, a0, ([] : List (S31)))
set_option maxHeartbeats 8000000 in
set_option maxRecDepth 100000 in
theorem spec_l05Const.calls (a0 : Int) (r1 : Int) (r2 : Int) (r3 : List (S31)) (w : World) (h : spec_l05Const.f a0 = some (r1, r2, r3)) :
  Calls Try.prog 84 #[.int .i64 a0] w fun e w' => ∃ v2_ : Value, e = .returned (.agg #[.int .i64 r1, .int .i64 r2, v2_]) ∧ Kd.R k31 31 w' w.heap.size (fun _ => True) v2_ r3 ∧ Below w.heap.size w w' := by
 have hu31 := Try.underlying31
 have HB := Aside0.mk (Below.refl w.heap.size w)
 have H : (some (2, a0, ([] : List (S31)))) = some (r1, r2, r3) := h
 clear h
 simp only [Option.some.injEq, Prod.mk.injEq] at H
 obtain ⟨rfl, rfl, rfl⟩ := H
 go_enter Try.func84, Try.ntmps84
 go_wp2_with (first | ((with_reducible refine gate_dst (N := 2) rfl ?_); refine box_event ?hg (N := 2) ?hd (cs := #[.int .i64 0, .int .i64 0, .slice none 0 0]) (t := 31) ?hr ?_; (case hd => rfl); (case hg => rfl); (case hr => first | (go_simp; done) | (go_simp; rfl)); intro gb113 hg w2 hbox hb; have n0_ := Aside0.mk (below_step (by repeat (first | (with_reducible first | exact HB.out | apply below_alloc | apply pw_below_drewN | apply below_drew1) | exact HB.out)) hb); have n1_ := Aside0.mk (hbox); have n2_ := Aside0.mk ((by rw [hg]; exact (below_size (by repeat (first | (with_reducible first | exact HB.out | apply below_alloc | apply pw_below_drewN | apply below_drew1) | exact HB.out))) : w.heap.size ≤ gb113)); have n3_ := Aside0.mk ((by rw [hg]; exact (below_size (by repeat (first | (with_reducible first | exact HB.out | apply below_alloc | apply pw_below_drewN | apply below_drew1) | exact HB.out))) : w.heap.size ≤ gb113)); clear HB; have HB := n0_; have BK113 := n1_; have GW113 := n2_; have GE113 := n3_; clear n0_ n1_ n2_ n3_; clear hb hbox hg; have hcz3_0 : w2.cell? ⟨gb113, 0, none⟩ = some (.int .i64 0) := (blk_cell BK113.out 0).trans rfl; have hcz3_1 : w2.cell? ⟨gb113, 1, none⟩ = some (.int .i64 0) := (blk_cell BK113.out 1).trans rfl; have hcz3_2 : w2.cell? ⟨gb113, 2, none⟩ = some (.slice none 0 0) := (blk_cell BK113.out 2).trans rfl; have hfz3_0 := blk_frozen BK113.out 0; have hfz3_1 := blk_frozen BK113.out 1; have hfz3_2 := blk_frozen BK113.out 2))
 refine bodyPost_ret (results_cell_row rfl _ _ gb113 31 #[.int .i64 2, .int .i64 a0, .slice none 0 0] (0, 0) _ rfl (by (with_reducible repeat (first | refine blk_drewN ?_ _ | refine blk_drew ?_ | refine blk_alloc ?_ _)); refine blk_put (cs := #[.int .i64 2, .int .i64 a0, .slice none 0 0]) ?_ 2 _ rfl; (with_reducible repeat (first | refine blk_drewN ?_ _ | refine blk_drew ?_ | refine blk_alloc ?_ _)); refine blk_put (cs := #[.int .i64 2, .int .i64 0, .slice none 0 0]) ?_ 1 _ rfl; (with_reducible repeat (first | refine blk_drewN ?_ _ | refine blk_drew ?_ | refine blk_alloc ?_ _)); refine blk_put (cs := #[.int .i64 0, .int .i64 0, .slice none 0 0]) ?_ 0 _ rfl; (with_reducible repeat (first | refine blk_drewN ?_ _ | refine blk_drew ?_ | refine blk_alloc ?_ _)); exact BK113.out) Try.underlying31 rfl (by kernel_rfl)) rfl ?_
 exact ⟨_, by first | rfl | (simp [errW_none, errW_some] <;> rfl) | (simp [*, errW_none, errW_some] <;> rfl), by first | exact Kd.R_nil _ _ _ _ _ | exact Kd.N_nil _ _ _ _ _ | exact Kd.V_nil _ _ _ _ _ | exact Kd.Q_nil _ _ _ _ _ | exact Kd.S_nil _ _ _ _ _, by repeat (first | (with_reducible first | exact HB.out | apply below_alloc | apply pw_below_drewN | apply below_drew1 | refine below_set ?_ GE113.out) | exact HB.out)⟩
def spec_l05Ex.f (a0 : Int) (l1 : List (S31)) : Option (Int × Int × (List (S31))) := some (a0, 0, l1)
set_option maxHeartbeats 8000000 in
set_option maxRecDepth 100000 in
theorem spec_l05Ex.calls (a0 : Int) (P1_ : Nat → Prop) (A1 : Option Addr) (c1 : Nat) (l1 : List (S31)) (r1 : Int) (r2 : Int) (r3 : List (S31)) (w : World) (hs1 : Kd.V k31 31 w w.heap.size (fun k_ => P1_ k_) (.slice A1 l1.length c1) l1) (h : spec_l05Ex.f a0 l1 = some (r1, r2, r3)) :
  Calls Try.prog 85 #[.int .i64 a0, .slice A1 l1.length c1] w fun e w' => ∃ v2_ : Value, e = .returned (.agg #[.int .i64 r1, .int .i64 r2, v2_]) ∧ Kd.V k31 31 w' w.heap.size (fun k_ => (P1_ k_ ∨ w.heap.size ≤ k_)) v2_ r3 ∧ Below w.heap.size w w' := by
 have hu31 := Try.underlying31
 have HO1 := Aside0.mk (show Kd.V k31 31 w w.heap.size (fun k_ => (P1_ k_ ∨ w.heap.size ≤ k_)) (.slice A1 l1.length c1) l1 from Kd.V_mono hs1 (fun k_ hk => .inl hk))
 have HB := Aside0.mk (Below.refl w.heap.size w)
 have H : (some (a0, 0, l1)) = some (r1, r2, r3) := h
 clear h
 simp only [Option.some.injEq, Prod.mk.injEq] at H
 obtain ⟨rfl, rfl, rfl⟩ := H
 go_enter Try.func85, Try.ntmps85
 go_wp2_with (first | ((with_reducible refine gate_dst (N := 4) rfl ?_); refine box_event ?hg (N := 4) ?hd (cs := #[.int .i64 0, .int .i64 0, .slice none 0 0]) (t := 31) ?hr ?_; (case hd => rfl); (case hg => rfl); (case hr => first | (go_simp; done) | (go_simp; rfl)); intro gb114 hg w3 hbox hb; have n0_ := Aside0.mk (Kd.V_below (Kd.V_elderB (by (with_reducible repeat (first | apply Kd.V_alloc | apply Kd.V_drewN | apply Kd.V_drew)); exact HO1.out) gb114 (Nat.le_of_eq hg.symm)) hb); have n1_ := Aside0.mk (below_step (by repeat (first | (with_reducible first | exact HB.out | apply below_alloc | apply pw_below_drewN | apply below_drew1) | exact HB.out)) hb); have n2_ := Aside0.mk (hbox); have n3_ := Aside0.mk ((by rw [hg]; exact (below_size (by repeat (first | (with_reducible first | exact HB.out | apply below_alloc | apply pw_below_drewN | apply below_drew1) | exact HB.out))) : w.heap.size ≤ gb114)); have n4_ := Aside0.mk ((by rw [hg]; exact (below_size (by repeat (first | (with_reducible first | exact HB.out | apply below_alloc | apply pw_below_drewN | apply below_drew1) | exact HB.out))) : w.heap.size ≤ gb114)); clear HO1; clear HB; have HO1 := n0_; have HB := n1_; have BK114 := n2_; have GW114 := n3_; have GE114 := n4_; clear n0_ n1_ n2_ n3_ n4_; clear hb hbox hg; have hcz4_0 : w3.cell? ⟨gb114, 0, none⟩ = some (.int .i64 0) := (blk_cell BK114.out 0).trans rfl; have hcz4_1 : w3.cell? ⟨gb114, 1, none⟩ = some (.int .i64 0) := (blk_cell BK114.out 1).trans rfl; have hcz4_2 : w3.cell? ⟨gb114, 2, none⟩ = some (.slice none 0 0) := (blk_cell BK114.out 2).trans rfl; have hfz4_0 := blk_frozen BK114.out 0; have hfz4_1 := blk_frozen BK114.out 1; have hfz4_2 := blk_frozen BK114.out 2))
 refine bodyPost_ret (results_cell_row rfl _ _ gb114 31 #[.int .i64 a0, .int .i64 0, .slice A1 l1.length c1] (0, 0) _ rfl (by (with_reducible repeat (first | refine blk_drewN ?_ _ | refine blk_drew ?_ | refine blk_alloc ?_ _)); refine blk_put (cs := #[.int .i64 a0, .int .i64 0, .slice none 0 0]) ?_ 2 _ rfl; (with_reducible repeat (first | refine blk_drewN ?_ _ | refine blk_drew ?_ | refine blk_alloc ?_ _)); refine blk_put (cs := #[.int .i64 a0, .int .i64 0, .slice none 0 0]) ?_ 1 _ rfl; (with_reducible repeat (first | refine blk_drewN ?_ _ | refine blk_drew ?_ | refine blk_alloc ?_ _)); refine blk_put (cs := #[.int .i64 0, .int .i64 0, .slice none 0 0]) ?_ 0 _ rfl; (with_reducible repeat (first | refine blk_drewN ?_ _ | refine blk_drew ?_ | refine blk_alloc ?_ _)); exact BK114.out) Try.underlying31 rfl (by kernel_rfl)) rfl ?_
 exact ⟨_, by first | rfl | (simp [errW_none, errW_some] <;> rfl) | (simp [*, errW_none, errW_some] <;> rfl), by (with_reducible repeat (first | apply Kd.V_alloc | apply Kd.V_drewN | apply Kd.V_drew)); exact Kd.V_mono (Kd.V_far (p := ⟨gb114, 2, none⟩) (Kd.V_far (p := ⟨gb114, 1, none⟩) (Kd.V_far (p := ⟨gb114, 0, none⟩) (Kd.V_mono HO1.out (fun k_ hk => (⟨hk, hk.2⟩ : _ ∧ k_ ≠ gb114))) (fun _ hk => hk.2) (.int .i64 a0)) (fun _ hk => hk.2) (.int .i64 0)) (fun _ hk => hk.2) (.slice A1 l1.length c1)) (fun _ hk => hk.1.1), by repeat (first | (with_reducible first | exact HB.out | apply below_alloc | apply pw_below_drewN | apply below_drew1 | refine below_set ?_ GE114.out) | exact HB.out)⟩
end Go.Proofs.Ytcmkkoggdcjceaa.PFnExactWordBits
end
section
namespace Go.Proofs.Ytcmkkoggdcjceaa.PFnExactWordBits
open Go.RowKit Go.Proofs.YtcmkkoggdcjceaaW.PrintWords Go.Proofs.YtcmkkoggdcjceaaW.PrintLast Go.Proofs.YtcmkkoggdcjceaaW.PrintMore
attribute [local go_sem] max2_int min2_int max_two min_two max_three min_three max_four min_four   -- for this text's walks alone
set_option linter.unusedVariables false
set_option linter.unusedSimpArgs false
mutual
def spec_l05Copy.l0 : Nat → Int → Int → Int → List (S31) → Int → Int → List (S31) → Option (Int × Int × (List (S31)))
 | 0, _, _, _, _, _, _, _ => none
 | k + 1, x4, x116000, x116001, x116002, x118000, x118001, x118002 => if x4 < (x116002.length : Int) then (if 0 ≤ x4 then ((spec_l05Copy.f k ((rd_T31 x116002 x4).f0) ((rd_T31 x116002 x4).f1) ((rd_T31 x116002 x4).f2)).bind fun bt119 => (if x118002.length < 3518437208883 then (spec_l05Copy.l0 k (wrap64 (x4 + 1)) x116000 x116001 x116002 x118000 x118001 (x118002 ++ [(⟨bt119.1, bt119.2.1, bt119.2.2⟩ : S31)])) else (none))) else (none)) else (some (x118000, x118001, x118002))
def spec_l05Copy.f : Nat → Int → Int → List (S31) → Option (Int × Int × (List (S31)))
 | 0, _, _, _ => none
 | k + 1, a0_0, a0_1, l0_2 => spec_l05Copy.l0 k 0 a0_0 a0_1 l0_2 a0_0 a0_1 ([] : List (S31))
end
def spec_l05Copy.T5 : Bool × List (List Nat × List Nat) := (true, [([], []), ([0], [0]), ([], []), ([2], [2]), ([], []), ([3, 4], [3, 4]), ([5], [5]), ([6], [6]), ([7], [7]), ([1, 8, 7], [1, 8]), ([0, 1, 2, 3, 4, 5, 6, 7, 8, 9], []), ([10, 9, 9, 0, 1, 2, 3, 4, 5, 6, 7, 8, 9], [9, 10])])
def spec_l05Copy.B5 : List Nat := [0, 1, 0, 4, 0, 28, 60, 124, 252, 511, 1023, 2047]
theorem spec_l05Copy.tab5 : rtab .any (opsOf Try.f86 5) = spec_l05Copy.T5 := by kernel_rfl
theorem spec_l05Copy.bits5 : waitsOk spec_l05Copy.T5.2 spec_l05Copy.B5 = true := by kernel_rfl
set_option maxHeartbeats 8000000 in
set_option maxRecDepth 100000 in
theorem spec_l05Copy.calls (k : Nat) : ∀ (a0_0 : Int) (a0_1 : Int) (A0_2 : Option Addr) (c0_2 : Nat) (l0_2 : List (S31)) (r1 : Int) (r2 : Int) (r3 : List (S31)) (w : World) (hr0_2 : Kd.C k31 w A0_2 l0_2.length l0_2) (hc0_2 : l0_2.length ≤ c0_2) (h : spec_l05Copy.f k a0_0 a0_1 l0_2 = some (r1, r2, r3)),
  Calls Try.prog 86 #[.agg #[.int .i64 a0_0, .int .i64 a0_1, .slice A0_2 l0_2.length c0_2]] w fun e w' => ∃ v2_ : Value, e = .returned (.agg #[.int .i64 r1, .int .i64 r2, v2_]) ∧ Kd.R k31 31 w' w.heap.size (fun _ => True) v2_ r3 ∧ Below w.heap.size w w' := by
 induction k using Nat.strongRecOn with
 | _ k ih =>
 intro a0_0 a0_1 A0_2 c0_2 l0_2 r1 r2 r3 w hr0_2 hc0_2 h
 cases k with
 | zero => exact absurd h (by simp [spec_l05Copy.f])
 | succ k =>
 simp only [spec_l05Copy.f] at h
 have hu31 := Try.underlying31
 have HR0_2 := Aside0.mk hr0_2
 have HC0_2 := Aside0.mk hc0_2
 clear hr0_2 hc0_2
 have HB := Aside0.mk (Below.refl w.heap.size w)
 have H : (spec_l05Copy.l0 k 0 a0_0 a0_1 l0_2 a0_0 a0_1 ([] : List (S31))) = some (r1, r2, r3) := h
 clear h
 have H' := Aside0.mk H
 clear H
 go_enter Try.func86, Try.ntmps86
 go_wp2_with (first | ((with_reducible refine gate_dst (N := 1) rfl ?_); refine box_event ?hg (N := 1) ?hd (cs := #[.int .i64 a0_0, .int .i64 a0_1, .slice A0_2 l0_2.length c0_2]) (t := 31) ?hr ?_; (case hd => rfl); (case hg => rfl); (case hr => first | (go_simp; done) | (go_simp; rfl)); intro gb115 hg w2 hbox hb; have n0_ := Aside0.mk (below_step (by repeat (first | (with_reducible first | exact HB.out | apply below_alloc | apply pw_below_drewN | apply below_drew1) | exact HB.out)) hb); have n1_ := Aside0.mk (hbox); have n2_ := Aside0.mk ((by rw [hg]; exact (below_size (by repeat (first | (with_reducible first | exact HB.out | apply below_alloc | apply pw_below_drewN | apply below_drew1) | exact HB.out))) : w.heap.size ≤ gb115)); have n3_ := Aside0.mk ((by rw [hg]; exact (below_size (by repeat (first | (with_reducible first | exact HB.out | apply below_alloc | apply pw_below_drewN | apply below_drew1) | exact HB.out))) : w.heap.size ≤ gb115)); clear HB; have HB := n0_; have BK115 := n1_; have GW115 := n2_; have GE115 := n3_; clear n0_ n1_ n2_ n3_; clear hb hbox hg) | ((with_reducible refine gate_dst (N := 2) rfl ?_); refine box_event ?hg (N := 2) ?hd (cs := #[.int .i64 0, .int .i64 0, .slice none 0 0]) (t := 31) ?hr ?_; (case hd => rfl); (case hg => rfl); (case hr => first | (go_simp; done) | (go_simp; rfl)); intro gb116 hg w3 hbox hb; have n0_ := Aside0.mk (blk_below (g := gb115) (o := .cells #[.int .i64 a0_0, .int .i64 a0_1, .slice A0_2 l0_2.length c0_2] 31 (0, 0)) (by (with_reducible repeat (first | refine blk_drewN ?_ _ | refine blk_drew ?_ | refine blk_alloc ?_ _)); exact BK115.out) hb); have n1_ := Aside0.mk (below_step (by repeat (first | (with_reducible first | exact HB.out | apply below_alloc | apply pw_below_drewN | apply below_drew1 | refine below_set ?_ GE115.out) | exact HB.out)) hb); have n2_ := Aside0.mk (hbox); have n3_ := Aside0.mk ((by rw [hg]; exact (below_size (by repeat (first | (with_reducible first | exact HB.out | apply below_alloc | apply pw_below_drewN | apply below_drew1 | refine below_set ?_ GE115.out) | exact HB.out))) : w.heap.size ≤ gb116)); have n4_ := Aside0.mk ((by rw [hg]; exact (below_size (by repeat (first | (with_reducible first | exact HB.out | apply below_alloc | apply pw_below_drewN | apply below_drew1 | refine below_set ?_ GE115.out) | exact HB.out))) : w.heap.size ≤ gb116)); have n5_ := Aside0.mk ((by rw [hg]; exact Nat.ne_of_lt (blk_lt (g := gb115) (o := .cells #[.int .i64 a0_0, .int .i64 a0_1, .slice A0_2 l0_2.length c0_2] 31 (0, 0)) (by (with_reducible repeat (first | refine blk_drewN ?_ _ | refine blk_drew ?_ | refine blk_alloc ?_ _)); exact BK115.out)) : gb115 ≠ gb116)); have n6_ := Aside0.mk ((by rw [hg]; exact Nat.ne_of_gt (blk_lt (g := gb115) (o := .cells #[.int .i64 a0_0, .int .i64 a0_1, .slice A0_2 l0_2.length c0_2] 31 (0, 0)) (by (with_reducible repeat (first | refine blk_drewN ?_ _ | refine blk_drew ?_ | refine blk_alloc ?_ _)); exact BK115.out)) : gb116 ≠ gb115)); clear BK115; clear HB; have BK115 := n0_; have HB := n1_; have BK116 := n2_; have GW116 := n3_; have GE116 := n4_; have NB115_116 := n5_; have NB116_115 := n6_; clear n0_ n1_ n2_ n3_ n4_ n5_ n6_; clear hb hbox hg; have hnb4 := NB115_116.out; have hnc4 := NB116_115.out; have hcz5_0 : w3.cell? ⟨gb115, 0, none⟩ = some (.int .i64 a0_0) := (blk_cell BK115.out 0).trans rfl; have hcz5_1 : w3.cell? ⟨gb115, 1, none⟩ = some (.int .i64 a0_1) := (blk_cell BK115.out 1).trans rfl; have hcz5_2 : w3.cell? ⟨gb115, 2, none⟩ = some (.slice A0_2 l0_2.length c0_2) := (blk_cell BK115.out 2).trans rfl; have hfz5_0 := blk_frozen BK115.out 0; have hfz5_1 := blk_frozen BK115.out 1; have hfz5_2 := blk_frozen BK115.out 2) | ((with_reducible refine gate_dst (N := 3) rfl ?_); refine box_event ?hg (N := 3) ?hd (cs := #[.int .i64 0, .int .i64 0, .slice none 0 0]) (t := 31) ?hr ?_; (case hd => rfl); (case hg => rfl); (case hr => first | (go_simp; done) | (go_simp; rfl)); intro gb117 hg w6 hbox hb; have n0_ := Aside0.mk (blk_below (g := gb115) (o := .cells #[.int .i64 a0_0, .int .i64 a0_1, .slice A0_2 l0_2.length c0_2] 31 (0, 0)) (by (with_reducible repeat (first | refine blk_drewN ?_ _ | refine blk_drew ?_ | refine blk_alloc ?_ _)); exact BK115.out) hb); have n1_ := Aside0.mk (blk_below (g := gb116) (o := .cells #[.int .i64 0, .int .i64 0, .slice none 0 0] 31 (0, 0)) (by (with_reducible repeat (first | refine blk_drewN ?_ _ | refine blk_drew ?_ | refine blk_alloc ?_ _)); exact BK116.out) hb); have n2_ := Aside0.mk (below_step (by repeat (first | (with_reducible first | exact HB.out | apply below_alloc | apply pw_below_drewN | apply below_drew1 | refine below_set ?_ GE115.out | refine below_set ?_ GE116.out) | exact HB.out)) hb); have n3_ := Aside0.mk (hbox); have n4_ := Aside0.mk ((by rw [hg]; exact (below_size (by repeat (first | (with_reducible first | exact HB.out | apply below_alloc | apply pw_below_drewN | apply below_drew1 | refine below_set ?_ GE115.out | refine below_set ?_ GE116.out) | exact HB.out))) : w.heap.size ≤ gb117)); have n5_ := Aside0.mk ((by rw [hg]; exact (below_size (by repeat (first | (with_reducible first | exact HB.out | apply below_alloc | apply pw_below_drewN | apply below_drew1 | refine below_set ?_ GE115.out | refine below_set ?_ GE116.out) | exact HB.out))) : w.heap.size ≤ gb117)); have n6_ := Aside0.mk ((by rw [hg]; exact Nat.ne_of_lt (blk_lt (g := gb115) (o := .cells #[.int .i64 a0_0, .int .i64 a0_1, .slice A0_2 l0_2.length c0_2] 31 (0, 0)) (by (with_reducible repeat (first | refine blk_drewN ?_ _ | refine blk_drew ?_ | refine blk_alloc ?_ _)); exact BK115.out)) : gb115 ≠ gb117)); have n7_ := Aside0.mk ((by rw [hg]; exact Nat.ne_of_gt (blk_lt (g := gb115) (o := .cells #[.int .i64 a0_0, .int .i64 a0_1, .slice A0_2 l0_2.length c0_2] 31 (0, 0)) (by (with_reducible repeat (first | refine blk_drewN ?_ _ | refine blk_drew ?_ | refine blk_alloc ?_ _)); exact BK115.out)) : gb117 ≠ gb115)); have n8_ := Aside0.mk ((by rw [hg]; exact Nat.ne_of_lt (blk_lt (g := gb116) (o := .cells #[.int .i64 0, .int .i64 0, .slice none 0 0] 31 (0, 0)) (by (with_reducible repeat (first | refine blk_drewN ?_ _ | refine blk_drew ?_ | refine blk_alloc ?_ _)); exact BK116.out)) : gb116 ≠ gb117)); have n9_ := Aside0.mk ((by rw [hg]; exact Nat.ne_of_gt (blk_lt (g := gb116) (o := .cells #[.int .i64 0, .int .i64 0, .slice none 0 0] 31 (0, 0)) (by (with_reducible repeat (first | refine blk_drewN ?_ _ | refine blk_drew ?_ | refine blk_alloc ?_ _)); exact BK116.out)) : gb117 ≠ gb116)); clear BK115; clear BK116; clear HB; have BK115 := n0_; have BK116 := n1_; have HB := n2_; have BK117 := n3_; have GW117 := n4_; have GE117 := n5_; have NB115_117 := n6_; have NB117_115 := n7_; have NB116_117 := n8_; have NB117_116 := n9_; clear n0_ n1_ n2_ n3_ n4_ n5_ n6_ n7_ n8_ n9_; clear hb hbox hg; have hnb7 := NB117_115.out; have hnc7 := NB115_117.out; have hnb8 := NB117_116.out; have hnc8 := NB116_117.out; have hcz9_0 : w6.cell? ⟨gb117, 0, none⟩ = some (.int .i64 0) := (blk_cell BK117.out 0).trans rfl; have hcz9_1 : w6.cell? ⟨gb117, 1, none⟩ = some (.int .i64 0) := (blk_cell BK117.out 1).trans rfl; have hcz9_2 : w6.cell? ⟨gb117, 2, none⟩ = some (.slice none 0 0) := (blk_cell BK117.out 2).trans rfl; have hfz9_0 := blk_frozen BK117.out 0; have hfz9_1 := blk_frozen BK117.out 1; have hfz9_2 := blk_frozen BK117.out 2))
 go_loopg [4] k (fun kq v4 w' => ∃ (x4_1 : Int) (x118002_1 : List (S31)) (u118002 : Value), v4 = .int .i64 x4_1 ∧ Aside0 (spec_l05Copy.l0 kq x4_1 a0_0 a0_1 l0_2 a0_0 a0_1 x118002_1 = some (r1, r2, r3)) ∧ Aside0 (kq ≤ k) ∧ Aside0 (Kd.R k31 31 w' w.heap.size (fun k_ => k_ ≠ gb115 ∧ k_ ≠ gb116 ∧ k_ ≠ gb117) u118002 x118002_1) ∧ Aside0 (w'.heap[gb115]? = some (.cells #[.int .i64 a0_0, .int .i64 a0_1, (.slice A0_2 l0_2.length c0_2)] 31 (0, 0))) ∧ Aside0 (w'.heap[gb116]? = some (.cells #[.int .i64 0, .int .i64 0, (.slice none 0 0)] 31 (0, 0))) ∧ Aside0 (w'.heap[gb117]? = some (.cells #[.int .i64 a0_0, .int .i64 a0_1, u118002] 31 (0, 0))) ∧ Aside0 (Below w.heap.size w w'))
 case atStart => exact ⟨(0), (([] : List (S31))), (.slice none 0 0), (by first | rfl | (simp; done) | (simp [*]; done)), H', ⟨Nat.le_refl _⟩, ⟨by first | exact Kd.R_nil _ _ _ _ _ | exact Kd.N_nil _ _ _ _ _ | exact Kd.V_nil _ _ _ _ _ | exact Kd.Q_nil _ _ _ _ _ | exact Kd.S_nil _ _ _ _ _⟩, ⟨by (with_reducible repeat (first | refine blk_drewN ?_ _ | refine blk_drew ?_ | refine blk_alloc ?_ _)); refine blk_far ?_ NB115_117.out _; (with_reducible repeat (first | refine blk_drewN ?_ _ | refine blk_drew ?_ | refine blk_alloc ?_ _)); refine blk_far ?_ NB115_117.out _; (with_reducible repeat (first | refine blk_drewN ?_ _ | refine blk_drew ?_ | refine blk_alloc ?_ _)); refine blk_far ?_ NB115_117.out _; (with_reducible repeat (first | refine blk_drewN ?_ _ | refine blk_drew ?_ | refine blk_alloc ?_ _)); exact BK115.out⟩, ⟨by (with_reducible repeat (first | refine blk_drewN ?_ _ | refine blk_drew ?_ | refine blk_alloc ?_ _)); refine blk_far ?_ NB116_117.out _; (with_reducible repeat (first | refine blk_drewN ?_ _ | refine blk_drew ?_ | refine blk_alloc ?_ _)); refine blk_far ?_ NB116_117.out _; (with_reducible repeat (first | refine blk_drewN ?_ _ | refine blk_drew ?_ | refine blk_alloc ?_ _)); refine blk_far ?_ NB116_117.out _; (with_reducible repeat (first | refine blk_drewN ?_ _ | refine blk_drew ?_ | refine blk_alloc ?_ _)); exact BK116.out⟩, ⟨by (with_reducible repeat (first | refine blk_drewN ?_ _ | refine blk_drew ?_ | refine blk_alloc ?_ _)); refine blk_put (cs := #[.int .i64 a0_0, .int .i64 a0_1, .slice none 0 0]) ?_ 2 _ rfl; (with_reducible repeat (first | refine blk_drewN ?_ _ | refine blk_drew ?_ | refine blk_alloc ?_ _)); refine blk_put (cs := #[.int .i64 a0_0, .int .i64 0, .slice none 0 0]) ?_ 1 _ rfl; (with_reducible repeat (first | refine blk_drewN ?_ _ | refine blk_drew ?_ | refine blk_alloc ?_ _)); refine blk_put (cs := #[.int .i64 0, .int .i64 0, .slice none 0 0]) ?_ 0 _ rfl; (with_reducible repeat (first | refine blk_drewN ?_ _ | refine blk_drew ?_ | refine blk_alloc ?_ _)); exact BK117.out⟩, ⟨by repeat (first | (with_reducible first | exact HB.out | apply below_alloc | apply pw_below_drewN | apply below_drew1 | refine below_set ?_ GE115.out | refine below_set ?_ GE116.out | refine below_set ?_ GE117.out) | exact HB.out)⟩⟩
 case round =>
  clear H'
  try clear p2
  try clear c4
  try clear c7
  try clear c8
  try clear hcz5_0
  try clear hcz5_1
  try clear hcz5_2
  try clear hcz9_0
  try clear hcz9_1
  try clear hcz9_2
  try clear hfz5_0
  try clear hfz5_1
  try clear hfz5_2
  try clear hfz9_0
  try clear hfz9_1
  try clear hfz9_2
  obtain ⟨x4_1, x118002_1, u118002, rfl, HA, HK1, HO_118002, BK115, BK116, BK117, HB⟩ := hrel
  cases gk with
  | zero => exact absurd HA.out (by simp [spec_l05Copy.l0])
  | succ k1 =>
   have H := HA.out
   clear HA
   simp only [spec_l05Copy.l0] at H
   by_cases c10 : x4_1 < (l0_2.length : Int)
   ·rw [if_pos c10] at H
    have c10b0 : decide (x4_1 < (l0_2.length : Int)) = true := decide_eq_true c10
    clear c10
    by_cases c11 : 0 ≤ x4_1
    ·rw [if_pos c11] at H
     have c11b0 : decide (0 ≤ x4_1) = true := decide_eq_true c11
     clear c11
     replace H := Option.bind_eq_some_iff.mp H
     obtain ⟨⟨t119, t120, t121⟩, A120, H⟩ := H
     replace H : (if x118002_1.length < 3518437208883 then (spec_l05Copy.l0 k1 (wrap64 (x4_1 + 1)) a0_0 a0_1 l0_2 a0_0 a0_1 (x118002_1 ++ [(⟨t119, t120, t121⟩ : S31)])) else (none)) = some (r1, r2, r3) := H
     have A12 := Aside0.mk A120
     clear A120
     by_cases c13 : x118002_1.length < 3518437208883
     ·rw [if_pos c13] at H
      have LMc13 := Aside0.mk c13
      clear c13
      obtain ⟨y124, hy124⟩ : ∃ y_ : List (S31), y_ = (x118002_1 ++ [(⟨t119, t120, t121⟩ : S31)]) := ⟨_, rfl⟩
      replace H : (spec_l05Copy.l0 k1 (wrap64 (x4_1 + 1)) a0_0 a0_1 l0_2 a0_0 a0_1 y124) = some (r1, r2, r3) := by first | (rw [hy124]; with_reducible exact H) | (have H2_ := (Option.bind_some _ _).symm.trans H; rw [hy124]; with_reducible exact H2_) | (have H2_ := (Option.bind_some _ _).symm.trans H; with_reducible exact H2_) | with_reducible exact H | (rw [hy124]; exact H) | exact H
      have Ny124 := Aside0.mk hy124
      clear hy124
      have H' := Aside0.mk H
      clear H
      have hnb14 := NB115_116.out
      have hnc14 := NB116_115.out
      have hnb15 := NB115_117.out
      have hnc15 := NB117_115.out
      have hcz16_0 : wr.cell? ⟨gb115, 0, none⟩ = some (.int .i64 a0_0) := (blk_cell BK115.out 0).trans rfl
      have hcz16_1 : wr.cell? ⟨gb115, 1, none⟩ = some (.int .i64 a0_1) := (blk_cell BK115.out 1).trans rfl
      have hcz16_2 : wr.cell? ⟨gb115, 2, none⟩ = some (.slice A0_2 l0_2.length c0_2) := (blk_cell BK115.out 2).trans rfl
      have hfz16_0 := blk_frozen BK115.out 0
      have hfz16_1 := blk_frozen BK115.out 1
      have hfz16_2 := blk_frozen BK115.out 2
      try go_wp2
      have n0_ := Aside0.mk (Kd.R_drew HO_118002.out)
      have n1_ := Aside0.mk (blk_drew BK115.out)
      have n2_ := Aside0.mk (blk_drew BK116.out)
      have n3_ := Aside0.mk (blk_drew BK117.out)
      have n4_ := Aside0.mk (below_drew1 HB.out)
      clear HO_118002
      clear BK115
      clear BK116
      clear BK117
      clear HB
      have HO_118002 := n0_
      have BK115 := n1_
      have BK116 := n2_
      have BK117 := n3_
      have HB := n4_
      clear n0_ n1_ n2_ n3_ n4_
      have p118 : 0 ≤ (x4_1 : Int) := of_decide_eq_true (by first | (with_reducible assumption) | assumption)
      have q118 : x4_1 < (l0_2.length : Int) := of_decide_eq_true (by first | (with_reducible assumption) | assumption)
      obtain ⟨ad118, A118_2, c118_2, e118, hx118_0, hx118_1, hx118_2, hl118_2, hi118_2⟩ := at_T31 HR0_2.out x4_1 p118 q118
      have hw118_2 := hx118_2
      have hw118_1 := hx118_1
      have hw118_0 := hx118_0
      cases e118
      replace hx118_0 := (HB.out.cell (World.block_lt_of_cell? w _ hx118_0)).trans hx118_0
      replace hx118_1 := (HB.out.cell (World.block_lt_of_cell? w _ hx118_1)).trans hx118_1
      replace hx118_2 := (HB.out.cell (World.block_lt_of_cell? w _ hx118_2)).trans hx118_2
      have HR118_2 := Aside0.mk hi118_2
      have HC118_2 := Aside0.mk hl118_2
      clear hi118_2 hl118_2
      replace p118 := eq_true p118
      replace q118 := eq_true q118
      refine start_ (n := 12) (S := fun w' => w'.cell? ⟨gb117, 0, none⟩ = some (.int .i64 a0_0) ∧ w'.cell? ⟨gb117, 1, none⟩ = some (.int .i64 a0_1) ∧ w'.cell? ⟨gb117, 2, none⟩ = some (u118002) ∧ w'.cell? ⟨gb115, 0, none⟩ = some (.int .i64 a0_0) ∧ w'.cell? ⟨gb115, 1, none⟩ = some (.int .i64 a0_1) ∧ w'.cell? ⟨gb115, 2, none⟩ = some (.slice (some ad118) l0_2.length c0_2) ∧ w'.cell? (ad118.add ((x4_1).toNat * 3)) = some (.int .i64 ((rd_T31 l0_2 x4_1).f0)) ∧ w'.cell? ⟨(ad118.add ((x4_1).toNat * 3)).block, (ad118.add ((x4_1).toNat * 3)).off + 1, none⟩ = some (.int .i64 ((rd_T31 l0_2 x4_1).f1)) ∧ w'.cell? ⟨(ad118.add ((x4_1).toNat * 3)).block, (ad118.add ((x4_1).toNat * 3)).off + 2, none⟩ = some (.slice A118_2 ((rd_T31 l0_2 x4_1).f2).length c118_2)) (ds := [11]) #[false, false, false, false, false, false, false, false, false, false, false, false] (by kernel_rfl) rfl rfl ⟨(blk_cell BK117.out 0).trans rfl, (blk_cell BK117.out 1).trans rfl, (blk_cell BK117.out 2).trans rfl, (blk_cell BK115.out 0).trans rfl, (blk_cell BK115.out 1).trans rfl, (blk_cell BK115.out 2).trans rfl, ((HB.out.cell (World.block_lt_of_cell? w _ hw118_0)).trans hw118_0), ((HB.out.cell (World.block_lt_of_cell? w _ hw118_1)).trans hw118_1), ((HB.out.cell (World.block_lt_of_cell? w _ hw118_2)).trans hw118_2)⟩ (fun hHeld => ?_); refine with_tabW spec_l05Copy.tab5 spec_l05Copy.bits5 (fun HT_ HW_ => ?_)
      generalize wr.drew = w17 at HO_118002 BK115 BK116 BK117 HB HR118_2 hx118_0 hx118_1 hx118_2 hHeld ⊢
      refine pure_ (i := 0) (N := some 17) (v := ?_) (a' := ?_) #[true, false, false, false, false, false, false, false, false, false, false, false] rfl rfl (any_of HT_.out (by kernel_rfl)) (fun _ _ _ h => h) (Or.inl ⟨by rfl, ?_⟩) ?_ ?_
      rotate_left
      ·intro w'
       go_simp
       with_reducible rfl
      rotate_left
      ·simp only [Act.put, List.setIfInBounds_toArray, List.set_cons_zero, List.set_cons_succ, i64_w, i32_w]
       rfl
      refine pure_ (i := 2) (N := some 19) (v := ?_) (a' := ?_) #[true, false, true, false, false, false, false, false, false, false, false, false] rfl rfl (any_of HT_.out (by kernel_rfl)) (fun _ _ _ h => h) (Or.inl ⟨by rfl, ?_⟩) ?_ ?_
      rotate_left
      ·intro w'
       go_simp
       with_reducible rfl
      rotate_left
      ·simp only [Act.put, List.setIfInBounds_toArray, List.set_cons_zero, List.set_cons_succ, i64_w, i32_w]
       rfl
      refine pure_ (i := 4) (N := some 21) (v := ?_) (a' := ?_) #[true, false, true, false, true, false, false, false, false, false, false, false] rfl rfl (any_of HT_.out (by kernel_rfl)) (fun _ _ _ h => h) (Or.inl ⟨by rfl, ?_⟩) ?_ ?_
      rotate_left
      ·intro w'
       go_simp
       with_reducible rfl
      rotate_left
      ·simp only [Act.put, List.setIfInBounds_toArray, List.set_cons_zero, List.set_cons_succ, i64_w, i32_w]
       rfl
      refine take_ (i := 1) (N := some 18) (v := ?_) (a' := ?_) #[true, true, true, false, true, false, false, false, false, false, false, false] rfl rfl (take_ofW HT_.out HW_.out (by kernel_rfl)) (fun _ _ _ h => h) (Or.inl ⟨by rfl, ?_⟩) hHeld ?_ ?_
      rotate_left
      ·rintro w' ⟨s0, s1, s2, s3, s4, s5, s6, s7, s8⟩
       go_simp
       with_reducible rfl
      rotate_left
      ·simp only [Act.put, List.setIfInBounds_toArray, List.set_cons_zero, List.set_cons_succ, i64_w, i32_w]
       rfl
      refine take_ (i := 3) (N := some 20) (v := ?_) (a' := ?_) #[true, true, true, true, true, false, false, false, false, false, false, false] rfl rfl (take_ofW HT_.out HW_.out (by kernel_rfl)) (fun _ _ _ h => h) (Or.inl ⟨by rfl, ?_⟩) hHeld ?_ ?_
      rotate_left
      ·rintro w' ⟨s0, s1, s2, s3, s4, s5, s6, s7, s8⟩
       go_simp
       with_reducible rfl
      rotate_left
      ·simp only [Act.put, List.setIfInBounds_toArray, List.set_cons_zero, List.set_cons_succ, i64_w, i32_w]
       rfl
      refine pure_ (i := 5) (N := some 22) (v := ?_) (a' := ?_) #[true, true, true, true, true, true, false, false, false, false, false, false] rfl rfl (any_of HT_.out (by kernel_rfl)) (fun _ _ _ h => h) (Or.inl ⟨by rfl, ?_⟩) ?_ ?_
      rotate_left
      ·intro w'
       go_simp
       with_reducible rfl
      rotate_left
      ·simp only [Act.put, List.setIfInBounds_toArray, List.set_cons_zero, List.set_cons_succ, i64_w, i32_w]
       rfl
      refine take_ (i := 6) (N := some 23) (v := ?_) (a' := ?_) #[true, true, true, true, true, true, true, false, false, false, false, false] rfl rfl (take_ofW HT_.out HW_.out (by kernel_rfl)) (fun _ _ _ h => h) (Or.inl ⟨by rfl, ?_⟩) hHeld ?_ ?_
      rotate_left
      ·rintro w' ⟨s0, s1, s2, s3, s4, s5, s6, s7, s8⟩
       go_simp
       with_reducible rfl
      rotate_left
      ·simp only [Act.put, List.setIfInBounds_toArray, List.set_cons_zero, List.set_cons_succ, i64_w, i32_w]
       rfl
      refine one_ (i := 7) (N := some 24) #[true, true, true, true, true, true, true, true, false, false, false, false] rfl rfl (one_of HT_.out (by kernel_rfl)) (by decide) (fun K hK => ?_)
      refine goes_ Try.func86 (by kernel_rfl) rfl #[.agg #[.int .i64 ((rd_T31 l0_2 x4_1).f0), .int .i64 ((rd_T31 l0_2 x4_1).f1), .slice A118_2 ((rd_T31 l0_2 x4_1).f2).length c118_2]] (by rfl) rfl rfl (by (try simp only [List.map_toArray, List.map_cons, List.map_nil]); first | done | rfl | (simp only [List.length_drop, List.length_take]; rfl)) ?_
      with_reducible refine (ih k1 (by have := HK1.out; omega) ((rd_T31 l0_2 x4_1).f0) ((rd_T31 l0_2 x4_1).f1) _ _ ((rd_T31 l0_2 x4_1).f2) t119 t120 t121 _ ?side1 ?side2 A12.out).mono ?_
      (case side1 => repeat (first | exact (Kd.C_below HR118_2.out HB.out) | (with_reducible refine Kd.C_alloc ?_ _) | (with_reducible refine Kd.C_drewN ?_ _) | (with_reducible refine Kd.C_drew ?_)))
      (case side2 => exact HC118_2.out)
      rintro e w18 ⟨v122, rfl, ho0, hb⟩
      refine ⟨_, rfl, ?_⟩
      have n0_ := Aside0.mk (Kd.R_elder' (by (with_reducible repeat (first | apply Kd.R_alloc | apply Kd.R_drewN | apply Kd.R_drew)); exact HO_118002.out) (Kd.R_base ho0) hb)
      have n1_ := Aside0.mk (Kd.R_lower (Kd.R_newB (Kd.R_newB (Kd.R_newB (Kd.R_new' ho0 (Kd.R_lt (by (with_reducible repeat (first | apply Kd.R_alloc | apply Kd.R_drewN | apply Kd.R_drew)); exact HO_118002.out))) (g := gb115) (o := .cells #[.int .i64 a0_0, .int .i64 a0_1, .slice (some ad118) l0_2.length c0_2] 31 (0, 0)) (by (with_reducible repeat (first | refine blk_drewN ?_ _ | refine blk_drew ?_ | refine blk_alloc ?_ _)); exact BK115.out)) (g := gb116) (o := .cells #[.int .i64 0, .int .i64 0, .slice none 0 0] 31 (0, 0)) (by (with_reducible repeat (first | refine blk_drewN ?_ _ | refine blk_drew ?_ | refine blk_alloc ?_ _)); exact BK116.out)) (g := gb117) (o := .cells #[.int .i64 a0_0, .int .i64 a0_1, u118002] 31 (0, 0)) (by (with_reducible repeat (first | refine blk_drewN ?_ _ | refine blk_drew ?_ | refine blk_alloc ?_ _)); exact BK117.out)) (below_size (by repeat (first | (with_reducible first | exact HB.out | apply below_alloc | apply pw_below_drewN | apply below_drew1 | refine below_set ?_ GE115.out | refine below_set ?_ GE116.out | refine below_set ?_ GE117.out) | exact HB.out))))
      have n2_ := Aside0.mk (blk_below (g := gb115) (o := .cells #[.int .i64 a0_0, .int .i64 a0_1, .slice (some ad118) l0_2.length c0_2] 31 (0, 0)) (by (with_reducible repeat (first | refine blk_drewN ?_ _ | refine blk_drew ?_ | refine blk_alloc ?_ _)); exact BK115.out) hb)
      have n3_ := Aside0.mk (blk_below (g := gb116) (o := .cells #[.int .i64 0, .int .i64 0, .slice none 0 0] 31 (0, 0)) (by (with_reducible repeat (first | refine blk_drewN ?_ _ | refine blk_drew ?_ | refine blk_alloc ?_ _)); exact BK116.out) hb)
      have n4_ := Aside0.mk (blk_below (g := gb117) (o := .cells #[.int .i64 a0_0, .int .i64 a0_1, u118002] 31 (0, 0)) (by (with_reducible repeat (first | refine blk_drewN ?_ _ | refine blk_drew ?_ | refine blk_alloc ?_ _)); exact BK117.out) hb)
      have n5_ := Aside0.mk (below_step (by repeat (first | (with_reducible first | exact HB.out | apply below_alloc | apply pw_below_drewN | apply below_drew1 | refine below_set ?_ GE115.out | refine below_set ?_ GE116.out | refine below_set ?_ GE117.out) | exact HB.out)) hb)
      clear HO_118002
      clear BK115
      clear BK116
      clear BK117
      clear HB
      have HO_118002 := n0_
      have HO123 := n1_
      have BK115 := n2_
      have BK116 := n3_
      have BK117 := n4_
      have HB := n5_
      clear n0_ n1_ n2_ n3_ n4_ n5_
      (try clear hb)
      (try clear hb2)
      (try clear hk)
      (try clear hi)
      (try clear ho0)
      obtain ⟨Ao20, co20, eo20⟩ := Kd.R_slice HO123.out
      (first | subst eo20 | (injection eo20 with f1_ f2_ f3_; have f4_ := f1_.symm; have f5_ := f3_.symm; clear f1_ f2_ f3_; subst f4_; subst f5_))
      refine hK.out _ _ ⟨(blk_cell BK117.out 0).trans rfl, (blk_cell BK117.out 1).trans rfl, (blk_cell BK117.out 2).trans rfl, (blk_cell BK115.out 0).trans rfl, (blk_cell BK115.out 1).trans rfl, (blk_cell BK115.out 2).trans rfl, ((HB.out.cell (World.block_lt_of_cell? w _ hw118_0)).trans hw118_0), ((HB.out.cell (World.block_lt_of_cell? w _ hw118_1)).trans hw118_1), ((HB.out.cell (World.block_lt_of_cell? w _ hw118_2)).trans hw118_2)⟩ (fun hHeld => ?_)
      clear hK K
      refine norm_ (a' := ?_) ?_ ?_
      rotate_left
      ·show Act.put _ (some 24) _ = _
       simp only [Act.put, List.setIfInBounds_toArray, List.set_cons_zero, List.set_cons_succ, i64_w, i32_w]
       rfl
      refine one_ (i := 8) (N := some 25) #[true, true, true, true, true, true, true, true, true, false, false, false] rfl rfl (one_of HT_.out (by kernel_rfl)) (by decide) (fun K hK => ?_)
      refine value_ (w1 := ?_) (v := ?_) (by rfl) rfl ?_ ?_
      rotate_left 2
      ·go_simp
       constructor
       ·rfl
       ·rfl
      refine hK.out _ _ ⟨(blk_cell (blk_alloc BK117.out _) 0).trans rfl, (blk_cell (blk_alloc BK117.out _) 1).trans rfl, (blk_cell (blk_alloc BK117.out _) 2).trans rfl, (blk_cell (blk_alloc BK115.out _) 0).trans rfl, (blk_cell (blk_alloc BK115.out _) 1).trans rfl, (blk_cell (blk_alloc BK115.out _) 2).trans rfl, (World.cell?_alloc_lt _ _ _ (World.block_lt_of_cell? _ _ (((HB.out.cell (World.block_lt_of_cell? w _ hw118_0)).trans hw118_0)))).trans (((HB.out.cell (World.block_lt_of_cell? w _ hw118_0)).trans hw118_0)), (World.cell?_alloc_lt _ _ _ (World.block_lt_of_cell? _ _ (((HB.out.cell (World.block_lt_of_cell? w _ hw118_1)).trans hw118_1)))).trans (((HB.out.cell (World.block_lt_of_cell? w _ hw118_1)).trans hw118_1)), (World.cell?_alloc_lt _ _ _ (World.block_lt_of_cell? _ _ (((HB.out.cell (World.block_lt_of_cell? w _ hw118_2)).trans hw118_2)))).trans (((HB.out.cell (World.block_lt_of_cell? w _ hw118_2)).trans hw118_2))⟩ (fun hHeld => ?_)
      clear hK K
      refine norm_ (a' := ?_) ?_ ?_
      rotate_left
      ·show Act.put _ (some 25) _ = _
       simp only [Act.put, List.setIfInBounds_toArray, List.set_cons_zero, List.set_cons_succ, i64_w, i32_w]
       rfl
      refine one_ (i := 9) (N := some 26) #[true, true, true, true, true, true, true, true, true, true, false, false] rfl rfl (one_of HT_.out (by kernel_rfl)) (by decide) (fun K hK => ?_)
      refine Kd.R_append_step k31 (w0 := w) w.heap.size (by rfl) (.tmp 18) (.tmp 25) 29 31 (.agg #[(.int .i64 0), (.int .i64 0), (.slice none 0 0)]) 40 rfl Try.underlying29 info31 rfl (by decide) (by omega) u118002 x118002_1 (⟨t119, t120, t121⟩ : S31) [.int .i64 t119, .int .i64 t120, .slice Ao20 t121.length co20] (fun k_ => k_ ≠ gb115 ∧ k_ ≠ gb116 ∧ k_ ≠ gb117) (fun k_ => ((fun k_ => k_ ≠ gb115 ∧ k_ ≠ gb116 ∧ k_ ≠ gb117)) k_ ∧ some k_ ≠ (u118002 : Value).ownBlock) rfl rfl ?aP (fun _ hk => hk) ?aF ?aO ?aB ?aS ?aL ?_
      (case aP => exact k31_mkM _ _ _ (⟨t119, t120, t121⟩ : S31) (Kd.R_mono (HO123.out) (fun k_ hk => ⟨⟨hk.1.1.2, ⟨hk.1.2, hk.2⟩⟩, hk.1.1.1.2⟩)))
      (case aB => exact (by repeat (first | (with_reducible first | exact HB.out | apply below_alloc | apply pw_below_drewN | apply below_drew1 | refine below_set ?_ GE115.out | refine below_set ?_ GE116.out | refine below_set ?_ GE117.out) | exact HB.out)))
      (case aF => exact (fun k_ hk => ⟨Kd.freshB (g := gb115) (o := .cells #[.int .i64 a0_0, .int .i64 a0_1, .slice (some ad118) l0_2.length c0_2] 31 (0, 0)) (by (with_reducible repeat (first | refine blk_drewN ?_ _ | refine blk_drew ?_ | refine blk_alloc ?_ _)); exact BK115.out) k_ hk, Kd.freshB (g := gb116) (o := .cells #[.int .i64 0, .int .i64 0, .slice none 0 0] 31 (0, 0)) (by (with_reducible repeat (first | refine blk_drewN ?_ _ | refine blk_drew ?_ | refine blk_alloc ?_ _)); exact BK116.out) k_ hk, Kd.freshB (g := gb117) (o := .cells #[.int .i64 a0_0, .int .i64 a0_1, u118002] 31 (0, 0)) (by (with_reducible repeat (first | refine blk_drewN ?_ _ | refine blk_drew ?_ | refine blk_alloc ?_ _)); exact BK117.out) k_ hk⟩))
      (case aO => exact (by (with_reducible repeat (first | apply Kd.R_alloc | apply Kd.R_drewN | apply Kd.R_drew)); exact Kd.R_mono HO_118002.out (fun _ hk => ⟨hk.1.1, ⟨hk.1.2.1, hk.1.2.2⟩⟩)))
      (case aS => exact (below_size (by repeat (first | (with_reducible first | exact HB.out | apply below_alloc | apply pw_below_drewN | apply below_drew1 | refine below_set ?_ GE115.out | refine below_set ?_ GE116.out | refine below_set ?_ GE117.out) | exact HB.out))))
      (case aL => have := LMc13.out; omega)
      intro v125 w19 ho hb hg hat
      rw [← Ny124.out] at ho
      have n0_ := Aside0.mk (blk_grown (g := gb115) (o := .cells #[.int .i64 a0_0, .int .i64 a0_1, .slice (some ad118) l0_2.length c0_2] 31 (0, 0)) (by (with_reducible repeat (first | refine blk_drewN ?_ _ | refine blk_drew ?_ | refine blk_alloc ?_ _)); exact BK115.out) hg (Kd.R_away HO_118002.out (fun _ hk => hk.1.1)))
      have n1_ := Aside0.mk (blk_grown (g := gb116) (o := .cells #[.int .i64 0, .int .i64 0, .slice none 0 0] 31 (0, 0)) (by (with_reducible repeat (first | refine blk_drewN ?_ _ | refine blk_drew ?_ | refine blk_alloc ?_ _)); exact BK116.out) hg (Kd.R_away HO_118002.out (fun _ hk => hk.1.2.1)))
      have n2_ := Aside0.mk (blk_grown (g := gb117) (o := .cells #[.int .i64 a0_0, .int .i64 a0_1, u118002] 31 (0, 0)) (by (with_reducible repeat (first | refine blk_drewN ?_ _ | refine blk_drew ?_ | refine blk_alloc ?_ _)); exact BK117.out) hg (Kd.R_away HO_118002.out (fun _ hk => hk.1.2.2)))
      have n3_ := Aside0.mk (hb)
      have n4_ := Aside0.mk (ho)
      clear BK115
      clear BK116
      clear BK117
      clear HB
      clear HO_118002
      clear HO123
      have BK115 := n0_
      have BK116 := n1_
      have BK117 := n2_
      have HB := n3_
      have HO126 := n4_
      clear n0_ n1_ n2_ n3_ n4_
      clear ho hb hg hat
      obtain ⟨Ao21, co21, eo21⟩ := Kd.R_slice HO126.out
      (first | subst eo21 | (injection eo21 with f1_ f2_ f3_; have f4_ := f1_.symm; have f5_ := f3_.symm; clear f1_ f2_ f3_; subst f4_; subst f5_))
      refine hK.out _ _ ⟨(blk_cell BK117.out 0).trans rfl, (blk_cell BK117.out 1).trans rfl, (blk_cell BK117.out 2).trans rfl, (blk_cell BK115.out 0).trans rfl, (blk_cell BK115.out 1).trans rfl, (blk_cell BK115.out 2).trans rfl, ((HB.out.cell (World.block_lt_of_cell? w _ hw118_0)).trans hw118_0), ((HB.out.cell (World.block_lt_of_cell? w _ hw118_1)).trans hw118_1), ((HB.out.cell (World.block_lt_of_cell? w _ hw118_2)).trans hw118_2)⟩ (fun hHeld => ?_)
      clear hK K
      refine norm_ (a' := ?_) ?_ ?_
      rotate_left
      ·show Act.put _ (some 26) _ = _
       simp only [Act.put, List.setIfInBounds_toArray, List.set_cons_zero, List.set_cons_succ, i64_w, i32_w]
       rfl
      refine pure_ (i := 10) (N := some 27) (v := ?_) (a' := ?_) #[true, true, true, true, true, true, true, true, true, true, true, false] rfl rfl (any_of HT_.out (by kernel_rfl)) (fun _ _ _ h => h) (Or.inl ⟨by rfl, ?_⟩) ?_ ?_
      rotate_left
      ·intro w'
       go_simp
       with_reducible rfl
      rotate_left
      ·simp only [Act.put, List.setIfInBounds_toArray, List.set_cons_zero, List.set_cons_succ, i64_w, i32_w]
       rfl
      refine last_ (i := 11) (N := none) #[true, true, true, true, true, true, true, true, true, true, true, true] rfl rfl (one_of HT_.out (by kernel_rfl)) (by decide) (fun K hK => ?_)
      have hs22 : w19.cell? ⟨gb117, 2, none⟩ = some (u118002) := (blk_cell BK117.out 2).trans rfl
      have hfs22 := blk_frozen BK117.out 2
      have hns22_0 := NB115_117.out
      have hns22_1 := NB116_117.out
      have hms22_0 := NB117_115.out
      have hms22_1 := NB117_116.out
      refine skip_ (w1 := ?_) (by rfl) rfl ?_ ?_
      rotate_left
      ·go_simp
       rfl
      refine hK.out _ _ ?_
      clear hK K
      refine done_ (done_of HT_.out (by kernel_rfl)) ?_
      try go_wp2
      go_roundg k1
      case measure => have := HK1.out; omega
      case rel => exact ⟨(wrap64 (x4_1 + 1)), (y124), (.slice Ao21 y124.length co21), (by first | rfl | (simp; done) | (simp [*]; done)), H', ⟨by have := HK1.out; omega⟩, ⟨by (with_reducible repeat (first | apply Kd.R_alloc | apply Kd.R_drewN | apply Kd.R_drew)); exact Kd.R_mono (Kd.R_far (p := ⟨gb117, 2, none⟩) (Kd.R_mono HO126.out (fun k_ hk => (⟨hk, hk.2.2⟩ : _ ∧ k_ ≠ gb117))) (fun _ hk => hk.2) (.slice Ao21 y124.length co21)) (fun _ hk => ⟨hk.1.1, ⟨hk.1.2.1, hk.1.2.2⟩⟩)⟩, ⟨by (with_reducible repeat (first | refine blk_drewN ?_ _ | refine blk_drew ?_ | refine blk_alloc ?_ _)); refine blk_far ?_ NB115_117.out _; (with_reducible repeat (first | refine blk_drewN ?_ _ | refine blk_drew ?_ | refine blk_alloc ?_ _)); exact BK115.out⟩, ⟨by (with_reducible repeat (first | refine blk_drewN ?_ _ | refine blk_drew ?_ | refine blk_alloc ?_ _)); refine blk_far ?_ NB116_117.out _; (with_reducible repeat (first | refine blk_drewN ?_ _ | refine blk_drew ?_ | refine blk_alloc ?_ _)); exact BK116.out⟩, ⟨by (with_reducible repeat (first | refine blk_drewN ?_ _ | refine blk_drew ?_ | refine blk_alloc ?_ _)); refine blk_put (cs := #[.int .i64 a0_0, .int .i64 a0_1, u118002]) ?_ 2 _ rfl; (with_reducible repeat (first | refine blk_drewN ?_ _ | refine blk_drew ?_ | refine blk_alloc ?_ _)); exact BK117.out⟩, ⟨by repeat (first | (with_reducible first | exact HB.out | apply below_alloc | apply pw_below_drewN | apply below_drew1 | refine below_set ?_ GE115.out | refine below_set ?_ GE116.out | refine below_set ?_ GE117.out) | exact HB.out)⟩⟩
     ·rw [if_neg c13] at H
      exact absurd H (by simp)
    ·rw [if_neg c11] at H
     exact absurd H (by simp)
   ·rw [if_neg c10] at H
    have c10b0 : decide (x4_1 < (l0_2.length : Int)) = false := decide_eq_false c10
    clear c10
    simp only [Option.some.injEq, Prod.mk.injEq] at H
    obtain ⟨rfl, rfl, rfl⟩ := H
    have hnb23 := NB115_116.out
    have hnc23 := NB116_115.out
    have hnb24 := NB115_117.out
    have hnc24 := NB117_115.out
    have hcz25_0 : wr.cell? ⟨gb115, 0, none⟩ = some (.int .i64 a0_0) := (blk_cell BK115.out 0).trans rfl
    have hcz25_1 : wr.cell? ⟨gb115, 1, none⟩ = some (.int .i64 a0_1) := (blk_cell BK115.out 1).trans rfl
    have hcz25_2 : wr.cell? ⟨gb115, 2, none⟩ = some (.slice A0_2 l0_2.length c0_2) := (blk_cell BK115.out 2).trans rfl
    have hfz25_0 := blk_frozen BK115.out 0
    have hfz25_1 := blk_frozen BK115.out 1
    have hfz25_2 := blk_frozen BK115.out 2
    have hnb26 := NB117_116.out
    have hnc26 := NB116_117.out
    have hcz27_0 : wr.cell? ⟨gb117, 0, none⟩ = some (.int .i64 a0_0) := (blk_cell BK117.out 0).trans rfl
    have hcz27_1 : wr.cell? ⟨gb117, 1, none⟩ = some (.int .i64 a0_1) := (blk_cell BK117.out 1).trans rfl
    have hcz27_2 : wr.cell? ⟨gb117, 2, none⟩ = some (u118002) := (blk_cell BK117.out 2).trans rfl
    have hfz27_0 := blk_frozen BK117.out 0
    have hfz27_1 := blk_frozen BK117.out 1
    have hfz27_2 := blk_frozen BK117.out 2
    have hcz28_0 : wr.cell? ⟨gb116, 0, none⟩ = some (.int .i64 0) := (blk_cell BK116.out 0).trans rfl
    have hcz28_1 : wr.cell? ⟨gb116, 1, none⟩ = some (.int .i64 0) := (blk_cell BK116.out 1).trans rfl
    have hcz28_2 : wr.cell? ⟨gb116, 2, none⟩ = some (.slice none 0 0) := (blk_cell BK116.out 2).trans rfl
    have hfz28_0 := blk_frozen BK116.out 0
    have hfz28_1 := blk_frozen BK116.out 1
    have hfz28_2 := blk_frozen BK116.out 2
    obtain ⟨Ao29, co29, eo29⟩ := Kd.R_slice HO_118002.out
    subst eo29
    go_wp2
    refine bodyPost_ret (results_cell_row rfl _ _ gb116 31 #[.int .i64 a0_0, .int .i64 a0_1, .slice Ao29 x118002_1.length co29] (0, 0) _ rfl (by (with_reducible repeat (first | refine blk_drewN ?_ _ | refine blk_drew ?_ | refine blk_alloc ?_ _)); refine blk_put (cs := #[.int .i64 a0_0, .int .i64 a0_1, .slice none 0 0]) ?_ 2 _ rfl; (with_reducible repeat (first | refine blk_drewN ?_ _ | refine blk_drew ?_ | refine blk_alloc ?_ _)); refine blk_put (cs := #[.int .i64 a0_0, .int .i64 0, .slice none 0 0]) ?_ 1 _ rfl; (with_reducible repeat (first | refine blk_drewN ?_ _ | refine blk_drew ?_ | refine blk_alloc ?_ _)); refine blk_put (cs := #[.int .i64 0, .int .i64 0, .slice none 0 0]) ?_ 0 _ rfl; (with_reducible repeat (first | refine blk_drewN ?_ _ | refine blk_drew ?_ | refine blk_alloc ?_ _)); exact BK116.out) Try.underlying31 rfl (by kernel_rfl)) rfl ?_
    exact ⟨_, by first | rfl | (simp [errW_none, errW_some] <;> rfl) | (simp [*, errW_none, errW_some] <;> rfl), by (with_reducible repeat (first | apply Kd.R_alloc | apply Kd.R_drewN | apply Kd.R_drew)); exact Kd.R_mono (Kd.R_far (p := ⟨gb116, 2, none⟩) (Kd.R_far (p := ⟨gb116, 1, none⟩) (Kd.R_far (p := ⟨gb116, 0, none⟩) (Kd.R_mono HO_118002.out (fun k_ hk => (⟨hk, hk.2.1⟩ : _ ∧ k_ ≠ gb116))) (fun _ hk => hk.2) (.int .i64 a0_0)) (fun _ hk => hk.2) (.int .i64 a0_1)) (fun _ hk => hk.2) (.slice Ao29 x118002_1.length co29)) (fun _ hk => trivial), by repeat (first | (with_reducible first | exact HB.out | apply below_alloc | apply pw_below_drewN | apply below_drew1 | refine below_set ?_ GE115.out | refine below_set ?_ GE116.out | refine below_set ?_ GE117.out) | exact HB.out)⟩
end Go.Proofs.Ytcmkkoggdcjceaa.PFnExactWordBits
end
